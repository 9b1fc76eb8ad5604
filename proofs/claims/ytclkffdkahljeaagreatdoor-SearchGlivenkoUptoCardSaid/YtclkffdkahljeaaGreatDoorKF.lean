/- Walks: lists of names; equality of terms -/
import Derived.Test.YtclkffdkahljeaaGreatDoorJJ
import Derived.Test.YtclkffdkahljeaaGreatDoorJK
set_option linter.all false
open Nat renaming reduceEqDiff → zE,reduceAdd → zA
namespace Go.Proofs.Tryz
open Go Go.Iv
set_option maxRecDepth 4000
end Go.Proofs.Tryz
namespace Go.Proofs.Tryz
open Go Go.Iv
set_option maxRecDepth 4000
open Classical in
noncomputable def eqB {α:Type}(a b:α):Bool:=decide (a=b)
theorem yZ6 {α:Type}{a b:α}:eqB a b=true↔a=b:=by simp[eqB]
theorem yQh {α:Type}{a b:α}:eqB a b=false↔a≠b:=by simp[eqB]
theorem xK7 {v:Bool}{n:ByteArray}{us:List Tm}{l:List Tm}(h:Tm.mk v n us∈l):SizeOf.sizeOf us<SizeOf.sizeOf l:=by
 have:=lSm h;simp at this;omega
end Go.Proofs.Tryz
namespace Go.Proofs.Tryz
open Go Go.Iv
set_option maxRecDepth 4000
variable (gl:Nat->Option IV)
theorem xU2 (c:UInt8)(st:ISt):ICall prog gl 237 [.raw (.int .u8 c.toNat)] st (λx st'=>x=.raw (.bool (yUq c))/\st'=st):=by
 refine iI func237 ?_;simp only[go_sem,reduceCtorEq];refine yXy (λh=>?_) (λh=>?_)
 ·have h':(48:Nat)<=c.toNat:=by simp at h;omega
  simp only[go_sem,zE,reduceCtorEq];exact yQ0 ⟨by congr 3;simp[yUq,inB,h'];omega,rfl⟩
 ·have h':¬ (48:Nat)<=c.toNat:=by simp at h;omega
  simp only[go_sem,zE];exact yQ0 ⟨by simp[yUq,inB,h'],rfl⟩
theorem wKh (c:UInt8)(st:ISt):ICall prog gl 260 [.raw (.int .u8 c.toNat)] st (λx st'=>x=.raw (.bool (zX3 c))/\st'=st):=by
 refine iI func260 ?_;simp only[go_sem,reduceCtorEq];refine yXy (λh=>?_) (λh=>?_)
 ·have h':(97:Nat)<=c.toNat:=by simp at h;omega
  simp only[go_sem,zE,reduceCtorEq];exact yQ0 ⟨by congr 3;simp[zX3,inB,h'];omega,rfl⟩
 ·have h':¬ (97:Nat)<=c.toNat:=by simp at h;omega
  simp only[go_sem,zE];exact yQ0 ⟨by simp[zX3,inB,h'],rfl⟩
theorem zGd (c:UInt8)(st:ISt):ICall prog gl 234 [.raw (.int .u8 c.toNat)] st (λx st'=>x=.raw (.bool (yK5 c))/\st'=st):=by
 refine iI func234 ?_;simp only[go_sem,reduceCtorEq];refine yXy (λh=>?_) (λh=>?_)
 ·have h':(65:Nat)<=c.toNat:=by simp at h;omega
  simp only[go_sem,zE,reduceCtorEq];exact yQ0 ⟨by congr 3;simp[yK5,inB,h'];omega,rfl⟩
 ·have h':¬ (65:Nat)<=c.toNat:=by simp at h;omega
  simp only[go_sem,zE];exact yQ0 ⟨by simp[yK5,inB,h'],rfl⟩
theorem wG4 (c:UInt8)(st:ISt):ICall prog gl 236 [.raw (.int .u8 c.toNat)] st (λx st'=>x=.raw (.bool (inB 117 122 c))/\st'=st):=by
 refine iI func236 ?_;simp only[go_sem,reduceCtorEq];refine yXy (λh=>?_) (λh=>?_)
 ·have h':(117:Nat)<=c.toNat:=by simp at h;omega
  simp only[go_sem,zE,reduceCtorEq];exact yQ0 ⟨by congr 3;simp[inB,h'];omega,rfl⟩
 ·have h':¬ (117:Nat)<=c.toNat:=by simp at h;omega
  simp only[go_sem,zE];exact yQ0 ⟨by simp[inB,h'],rfl⟩
theorem wUm (c:UInt8)(st:ISt):ICall prog gl 262 [.raw (.int .u8 c.toNat)] st (λx st'=>x=.raw (.bool (inB 97 116 c))/\st'=st):=by
 refine iI func262 ?_;simp only[go_sem,reduceCtorEq];refine yXy (λh=>?_) (λh=>?_)
 ·have h':(97:Nat)<=c.toNat:=by simp at h;omega
  simp only[go_sem,zE,reduceCtorEq];exact yQ0 ⟨by congr 3;simp[inB,h'];omega,rfl⟩
 ·have h':¬ (97:Nat)<=c.toNat:=by simp at h;omega
  simp only[go_sem,zE];exact yQ0 ⟨by simp[inB,h'],rfl⟩
theorem xUh (c:UInt8)(st:ISt):ICall prog gl 235 [.raw (.int .u8 c.toNat)] st (λx st'=>x=.raw (.bool (yWe c))/\st'=st):=by
 refine iI func235 ?_;simp only[go_sem,zA,reduceCtorEq];refine (wKh gl c _).mono ?_;rintro _ _ ⟨rfl,rfl⟩;cases h1:zX3 c
 ·simp only[go_sem,zE,zA,reduceCtorEq];refine (zGd gl c _).mono ?_;rintro _ _ ⟨rfl,rfl⟩;cases h2:yK5 c
  ·simp only[go_sem,zE,zA,reduceCtorEq];refine (xU2 gl c _).mono ?_;rintro _ _ ⟨rfl,rfl⟩;simp only[go_sem,zE];exact yQ0 ⟨by simp[yWe,h1,h2],rfl⟩
  ·simp only[go_sem,zE];exact yQ0 ⟨by simp[yWe,h1,h2],rfl⟩
 ·simp only[go_sem,zE];exact yQ0 ⟨by simp[yWe,h1],rfl⟩
