/- Walks: lists of names; equality of terms -/
import Derived.Test.YtddfdpbibloljaaGreatDoorJJ
import Derived.Test.YtddfdpbibloljaaGreatDoorJK
set_option linter.all false
open Nat renaming reduceEqDiff → zE,reduceAdd → zA
namespace Go.Proofs.Tryz
open Go Go.Iv
set_option maxRecDepth 4000
end Go.Proofs.Tryz
namespace Go.Proofs.Tryz
open Go Go.Iv
set_option maxRecDepth 4000
open Classical in
noncomputable def eqB {α:Type}(a b:α):Bool:=decide (a=b)
theorem yZ5 {α:Type}{a b:α}:eqB a b=true↔a=b:=by simp[eqB]
theorem yQm {α:Type}{a b:α}:eqB a b=false↔a≠b:=by simp[eqB]
theorem xY0 {v:Bool}{n:ByteArray}{us:List Tm}{l:List Tm}(h:Tm.mk v n us∈l):SizeOf.sizeOf us<SizeOf.sizeOf l:=by
 have:=lSm h;simp at this;omega
end Go.Proofs.Tryz
namespace Go.Proofs.Tryz
open Go Go.Iv
set_option maxRecDepth 4000
variable (gl:Nat->Option IV)
theorem wXh (c:UInt8)(st:ISt):ICall prog gl 215 [.raw (.int .u8 c.toNat)] st (λx st'=>x=.raw (.bool (zQz c))/\st'=st):=by
 refine iI func215 ?_;simp only[go_sem,reduceCtorEq];refine yJc (λh=>?_) (λh=>?_)
 ·have h':(48:Nat)<=c.toNat:=by simp at h;omega
  simp only[go_sem,zE,reduceCtorEq];exact yQ0 ⟨by congr 3;simp[zQz,inB,h'];omega,rfl⟩
 ·have h':¬ (48:Nat)<=c.toNat:=by simp at h;omega
  simp only[go_sem,zE];exact yQ0 ⟨by simp[zQz,inB,h'],rfl⟩
theorem wGp (c:UInt8)(st:ISt):ICall prog gl 233 [.raw (.int .u8 c.toNat)] st (λx st'=>x=.raw (.bool (zK0 c))/\st'=st):=by
 refine iI func233 ?_;simp only[go_sem,reduceCtorEq];refine yJc (λh=>?_) (λh=>?_)
 ·have h':(97:Nat)<=c.toNat:=by simp at h;omega
  simp only[go_sem,zE,reduceCtorEq];exact yQ0 ⟨by congr 3;simp[zK0,inB,h'];omega,rfl⟩
 ·have h':¬ (97:Nat)<=c.toNat:=by simp at h;omega
  simp only[go_sem,zE];exact yQ0 ⟨by simp[zK0,inB,h'],rfl⟩
theorem xZ8 (c:UInt8)(st:ISt):ICall prog gl 212 [.raw (.int .u8 c.toNat)] st (λx st'=>x=.raw (.bool (yVa c))/\st'=st):=by
 refine iI func212 ?_;simp only[go_sem,reduceCtorEq];refine yJc (λh=>?_) (λh=>?_)
 ·have h':(65:Nat)<=c.toNat:=by simp at h;omega
  simp only[go_sem,zE,reduceCtorEq];exact yQ0 ⟨by congr 3;simp[yVa,inB,h'];omega,rfl⟩
 ·have h':¬ (65:Nat)<=c.toNat:=by simp at h;omega
  simp only[go_sem,zE];exact yQ0 ⟨by simp[yVa,inB,h'],rfl⟩
theorem vXo (c:UInt8)(st:ISt):ICall prog gl 214 [.raw (.int .u8 c.toNat)] st (λx st'=>x=.raw (.bool (inB 117 122 c))/\st'=st):=by
 refine iI func214 ?_;simp only[go_sem,reduceCtorEq];refine yJc (λh=>?_) (λh=>?_)
 ·have h':(117:Nat)<=c.toNat:=by simp at h;omega
  simp only[go_sem,zE,reduceCtorEq];exact yQ0 ⟨by congr 3;simp[inB,h'];omega,rfl⟩
 ·have h':¬ (117:Nat)<=c.toNat:=by simp at h;omega
  simp only[go_sem,zE];exact yQ0 ⟨by simp[inB,h'],rfl⟩
theorem vKg (c:UInt8)(st:ISt):ICall prog gl 235 [.raw (.int .u8 c.toNat)] st (λx st'=>x=.raw (.bool (inB 97 116 c))/\st'=st):=by
 refine iI func235 ?_;simp only[go_sem,reduceCtorEq];refine yJc (λh=>?_) (λh=>?_)
 ·have h':(97:Nat)<=c.toNat:=by simp at h;omega
  simp only[go_sem,zE,reduceCtorEq];exact yQ0 ⟨by congr 3;simp[inB,h'];omega,rfl⟩
 ·have h':¬ (97:Nat)<=c.toNat:=by simp at h;omega
  simp only[go_sem,zE];exact yQ0 ⟨by simp[inB,h'],rfl⟩
theorem wJ2 (c:UInt8)(st:ISt):ICall prog gl 213 [.raw (.int .u8 c.toNat)] st (λx st'=>x=.raw (.bool (yYs c))/\st'=st):=by
 refine iI func213 ?_;simp only[go_sem,zA,reduceCtorEq];refine (wGp gl c _).mono ?_;rintro _ _ ⟨rfl,rfl⟩;cases h1:zK0 c
 ·simp only[go_sem,zE,zA,reduceCtorEq];refine (xZ8 gl c _).mono ?_;rintro _ _ ⟨rfl,rfl⟩;cases h2:yVa c
  ·simp only[go_sem,zE,zA,reduceCtorEq];refine (wXh gl c _).mono ?_;rintro _ _ ⟨rfl,rfl⟩;simp only[go_sem,zE];exact yQ0 ⟨by simp[yYs,h1,h2],rfl⟩
  ·simp only[go_sem,zE];exact yQ0 ⟨by simp[yYs,h1,h2],rfl⟩
 ·simp only[go_sem,zE];exact yQ0 ⟨by simp[yYs,h1],rfl⟩
