/- Walks: lists of names; equality of terms -/
import Derived.Test.YtofmbookakncjaaGreatDoorJJ
import Derived.Test.YtofmbookakncjaaGreatDoorJK
set_option linter.all false
open Nat renaming reduceEqDiff → zE,reduceAdd → zA
namespace Go.Proofs.Tryz
open Go Go.Iv
set_option maxRecDepth 4000
open Classical in
noncomputable def eqB {α:Type}(a b:α):Bool:=decide (a=b)
theorem yZ0 {α:Type}{a b:α}:eqB a b=true↔a=b:=by simp[eqB]
theorem yQo {α:Type}{a b:α}:eqB a b=false↔a≠b:=by simp[eqB]
theorem xU1 {v:Bool}{n:ByteArray}{us:List Tm}{l:List Tm}(h:Tm.mk v n us∈l):SizeOf.sizeOf us<SizeOf.sizeOf l:=by
 have:=lSm h;simp at this;omega
end Go.Proofs.Tryz
namespace Go.Proofs.Tryz
open Go Go.Iv
set_option maxRecDepth 4000
variable (gl:Nat->Option IV)
theorem wKp (c:UInt8)(st:ISt):ICall prog gl 233 [.raw (.int .u8 c.toNat)] st (λx st'=>x=.raw (.bool (zZk c))/\st'=st):=by
 refine iI func233 ?_;simp only[go_sem,reduceCtorEq];refine yJb (λh=>?_) (λh=>?_)
 ·have A:(48:Nat)<=c.toNat:=by simp at h;omega
  simp only[go_sem,zE,reduceCtorEq];exact yQ0 ⟨by congr 3;simp[zZk,inB,A];omega,rfl⟩
 ·have A:¬ (48:Nat)<=c.toNat:=by simp at h;omega
  simp only[go_sem,zE];exact yQ0 ⟨by simp[zZk,inB,A],rfl⟩
theorem vQv (c:UInt8)(st:ISt):ICall prog gl 255 [.raw (.int .u8 c.toNat)] st (λx st'=>x=.raw (.bool (zKk c))/\st'=st):=by
 refine iI func255 ?_;simp only[go_sem,reduceCtorEq];refine yJb (λh=>?_) (λh=>?_)
 ·have A:(97:Nat)<=c.toNat:=by simp at h;omega
  simp only[go_sem,zE,reduceCtorEq];exact yQ0 ⟨by congr 3;simp[zKk,inB,A];omega,rfl⟩
 ·have A:¬ (97:Nat)<=c.toNat:=by simp at h;omega
  simp only[go_sem,zE];exact yQ0 ⟨by simp[zKk,inB,A],rfl⟩
theorem xX2 (c:UInt8)(st:ISt):ICall prog gl 230 [.raw (.int .u8 c.toNat)] st (λx st'=>x=.raw (.bool (yV0 c))/\st'=st):=by
 refine iI func230 ?_;simp only[go_sem,reduceCtorEq];refine yJb (λh=>?_) (λh=>?_)
 ·have A:(65:Nat)<=c.toNat:=by simp at h;omega
  simp only[go_sem,zE,reduceCtorEq];exact yQ0 ⟨by congr 3;simp[yV0,inB,A];omega,rfl⟩
 ·have A:¬ (65:Nat)<=c.toNat:=by simp at h;omega
  simp only[go_sem,zE];exact yQ0 ⟨by simp[yV0,inB,A],rfl⟩
theorem vKp (c:UInt8)(st:ISt):ICall prog gl 232 [.raw (.int .u8 c.toNat)] st (λx st'=>x=.raw (.bool (inB 117 122 c))/\st'=st):=by
 refine iI func232 ?_;simp only[go_sem,reduceCtorEq];refine yJb (λh=>?_) (λh=>?_)
 ·have A:(117:Nat)<=c.toNat:=by simp at h;omega
  simp only[go_sem,zE,reduceCtorEq];exact yQ0 ⟨by congr 3;simp[inB,A];omega,rfl⟩
 ·have A:¬ (117:Nat)<=c.toNat:=by simp at h;omega
  simp only[go_sem,zE];exact yQ0 ⟨by simp[inB,A],rfl⟩
theorem vWp (c:UInt8)(st:ISt):ICall prog gl 235 [.raw (.int .u8 c.toNat)] st (λx st'=>x=.raw (.bool (inB 97 116 c))/\st'=st):=by
 refine iI func235 ?_;simp only[go_sem,reduceCtorEq];refine yJb (λh=>?_) (λh=>?_)
 ·have A:(97:Nat)<=c.toNat:=by simp at h;omega
  simp only[go_sem,zE,reduceCtorEq];exact yQ0 ⟨by congr 3;simp[inB,A];omega,rfl⟩
 ·have A:¬ (97:Nat)<=c.toNat:=by simp at h;omega
  simp only[go_sem,zE];exact yQ0 ⟨by simp[inB,A],rfl⟩
theorem wV7 (c:UInt8)(st:ISt):ICall prog gl 231 [.raw (.int .u8 c.toNat)] st (λx st'=>x=.raw (.bool (yYv c))/\st'=st):=by
 refine iI func231 ?_;simp only[go_sem,zA,reduceCtorEq];refine (vQv gl c _).mono ?_;rintro _ _ ⟨rfl,rfl⟩;cases h1:zKk c
 ·simp only[go_sem,zE,zA,reduceCtorEq];refine (xX2 gl c _).mono ?_;rintro _ _ ⟨rfl,rfl⟩;cases h2:yV0 c
  ·simp only[go_sem,zE,zA,reduceCtorEq];refine (wKp gl c _).mono ?_;rintro _ _ ⟨rfl,rfl⟩;simp only[go_sem,zE];exact yQ0 ⟨by simp[yYv,h1,h2],rfl⟩
  ·simp only[go_sem,zE];exact yQ0 ⟨by simp[yYv,h1,h2],rfl⟩
 ·simp only[go_sem,zE];exact yQ0 ⟨by simp[yYv,h1],rfl⟩
