/- Walks: lists of names; equality of terms -/
import Derived.Test.YtclkffdkahljeaaGreatDoorJJ
import Derived.Test.YtclkffdkahljeaaGreatDoorJK
set_option linter.all false
open Nat renaming reduceEqDiff → zE,reduceAdd → zA
namespace Go.Proofs.Tryz
open Go Go.Iv
set_option maxRecDepth 4000
end Go.Proofs.Tryz
namespace Go.Proofs.Tryz
open Go Go.Iv
set_option maxRecDepth 4000
open Classical in
noncomputable def eqB {α:Type}(a b:α):Bool:=decide (a=b)
theorem yZ3 {α:Type}{a b:α}:eqB a b=true↔a=b:=by simp[eqB]
theorem yQl {α:Type}{a b:α}:eqB a b=false↔a≠b:=by simp[eqB]
theorem xYp {v:Bool}{n:ByteArray}{us:List Tm}{l:List Tm}(h:Tm.mk v n us∈l):SizeOf.sizeOf us<SizeOf.sizeOf l:=by
 have:=lSm h;simp at this;omega
end Go.Proofs.Tryz
namespace Go.Proofs.Tryz
open Go Go.Iv
set_option maxRecDepth 4000
variable (gl:Nat->Option IV)
theorem wJ8 (c:UInt8)(st:ISt):ICall prog gl 237 [.raw (.int .u8 c.toNat)] st (λx st'=>x=.raw (.bool (zZd c))/\st'=st):=by
 refine iI func237 ?_;simp only[go_sem,reduceCtorEq];refine yJ9 (λh=>?_) (λh=>?_)
 ·have A:(48:Nat)<=c.toNat:=by simp at h;omega
  simp only[go_sem,zE,reduceCtorEq];exact yQ0 ⟨by congr 3;simp[zZd,inB,A];omega,rfl⟩
 ·have A:¬ (48:Nat)<=c.toNat:=by simp at h;omega
  simp only[go_sem,zE];exact yQ0 ⟨by simp[zZd,inB,A],rfl⟩
theorem wUj (c:UInt8)(st:ISt):ICall prog gl 260 [.raw (.int .u8 c.toNat)] st (λx st'=>x=.raw (.bool (zK2 c))/\st'=st):=by
 refine iI func260 ?_;simp only[go_sem,reduceCtorEq];refine yJ9 (λh=>?_) (λh=>?_)
 ·have A:(97:Nat)<=c.toNat:=by simp at h;omega
  simp only[go_sem,zE,reduceCtorEq];exact yQ0 ⟨by congr 3;simp[zK2,inB,A];omega,rfl⟩
 ·have A:¬ (97:Nat)<=c.toNat:=by simp at h;omega
  simp only[go_sem,zE];exact yQ0 ⟨by simp[zK2,inB,A],rfl⟩
theorem xZc (c:UInt8)(st:ISt):ICall prog gl 234 [.raw (.int .u8 c.toNat)] st (λx st'=>x=.raw (.bool (yV0 c))/\st'=st):=by
 refine iI func234 ?_;simp only[go_sem,reduceCtorEq];refine yJ9 (λh=>?_) (λh=>?_)
 ·have A:(65:Nat)<=c.toNat:=by simp at h;omega
  simp only[go_sem,zE,reduceCtorEq];exact yQ0 ⟨by congr 3;simp[yV0,inB,A];omega,rfl⟩
 ·have A:¬ (65:Nat)<=c.toNat:=by simp at h;omega
  simp only[go_sem,zE];exact yQ0 ⟨by simp[yV0,inB,A],rfl⟩
theorem vJd (c:UInt8)(st:ISt):ICall prog gl 236 [.raw (.int .u8 c.toNat)] st (λx st'=>x=.raw (.bool (inB 117 122 c))/\st'=st):=by
 refine iI func236 ?_;simp only[go_sem,reduceCtorEq];refine yJ9 (λh=>?_) (λh=>?_)
 ·have A:(117:Nat)<=c.toNat:=by simp at h;omega
  simp only[go_sem,zE,reduceCtorEq];exact yQ0 ⟨by congr 3;simp[inB,A];omega,rfl⟩
 ·have A:¬ (117:Nat)<=c.toNat:=by simp at h;omega
  simp only[go_sem,zE];exact yQ0 ⟨by simp[inB,A],rfl⟩
theorem vV7 (c:UInt8)(st:ISt):ICall prog gl 262 [.raw (.int .u8 c.toNat)] st (λx st'=>x=.raw (.bool (inB 97 116 c))/\st'=st):=by
 refine iI func262 ?_;simp only[go_sem,reduceCtorEq];refine yJ9 (λh=>?_) (λh=>?_)
 ·have A:(97:Nat)<=c.toNat:=by simp at h;omega
  simp only[go_sem,zE,reduceCtorEq];exact yQ0 ⟨by congr 3;simp[inB,A];omega,rfl⟩
 ·have A:¬ (97:Nat)<=c.toNat:=by simp at h;omega
  simp only[go_sem,zE];exact yQ0 ⟨by simp[inB,A],rfl⟩
theorem wJr (c:UInt8)(st:ISt):ICall prog gl 235 [.raw (.int .u8 c.toNat)] st (λx st'=>x=.raw (.bool (yYr c))/\st'=st):=by
 refine iI func235 ?_;simp only[go_sem,zA,reduceCtorEq];refine (wUj gl c _).mono ?_;rintro _ _ ⟨rfl,rfl⟩;cases h1:zK2 c
 ·simp only[go_sem,zE,zA,reduceCtorEq];refine (xZc gl c _).mono ?_;rintro _ _ ⟨rfl,rfl⟩;cases h2:yV0 c
  ·simp only[go_sem,zE,zA,reduceCtorEq];refine (wJ8 gl c _).mono ?_;rintro _ _ ⟨rfl,rfl⟩;simp only[go_sem,zE];exact yQ0 ⟨by simp[yYr,h1,h2],rfl⟩
  ·simp only[go_sem,zE];exact yQ0 ⟨by simp[yYr,h1,h2],rfl⟩
 ·simp only[go_sem,zE];exact yQ0 ⟨by simp[yYr,h1],rfl⟩
