/- Walks: lists of names; equality of terms -/
import Derived.Test.YtddfdpbibloljaaGreatDoorJJ
import Derived.Test.YtddfdpbibloljaaGreatDoorJK
set_option linter.all false
open Nat renaming reduceEqDiff → zE,reduceAdd → zA
namespace Go.Proofs.Tryz
open Go Go.Iv
set_option maxRecDepth 4000
end Go.Proofs.Tryz
namespace Go.Proofs.Tryz
open Go Go.Iv
set_option maxRecDepth 4000
open Classical in
noncomputable def eqB {α:Type}(a b:α):Bool:=decide (a=b)
theorem yZa {α:Type}{a b:α}:eqB a b=true↔a=b:=by simp[eqB]
theorem yQl {α:Type}{a b:α}:eqB a b=false↔a≠b:=by simp[eqB]
theorem xGj {v:Bool}{n:ByteArray}{us:List Tm}{l:List Tm}(h:Tm.mk v n us∈l):SizeOf.sizeOf us<SizeOf.sizeOf l:=by
 have:=lSm h;simp at this;omega
end Go.Proofs.Tryz
namespace Go.Proofs.Tryz
open Go Go.Iv
set_option maxRecDepth 4000
variable (gl:Nat->Option IV)
theorem wK2 (c:UInt8)(st:ISt):ICall prog gl 215 [.raw (.int .u8 c.toNat)] st (λx st'=>x=.raw (.bool (zZm c))/\st'=st):=by
 refine iI func215 ?_;simp only[go_sem,reduceCtorEq];refine yJo (λh=>?_) (λh=>?_)
 ·have h':(48:Nat)<=c.toNat:=by simp at h;omega
  simp only[go_sem,zE,reduceCtorEq];exact yQ0 ⟨by congr 3;simp[zZm,inB,h'];omega,rfl⟩
 ·have h':¬ (48:Nat)<=c.toNat:=by simp at h;omega
  simp only[go_sem,zE];exact yQ0 ⟨by simp[zZm,inB,h'],rfl⟩
theorem vQa (c:UInt8)(st:ISt):ICall prog gl 233 [.raw (.int .u8 c.toNat)] st (λx st'=>x=.raw (.bool (zKs c))/\st'=st):=by
 refine iI func233 ?_;simp only[go_sem,reduceCtorEq];refine yJo (λh=>?_) (λh=>?_)
 ·have h':(97:Nat)<=c.toNat:=by simp at h;omega
  simp only[go_sem,zE,reduceCtorEq];exact yQ0 ⟨by congr 3;simp[zKs,inB,h'];omega,rfl⟩
 ·have h':¬ (97:Nat)<=c.toNat:=by simp at h;omega
  simp only[go_sem,zE];exact yQ0 ⟨by simp[zKs,inB,h'],rfl⟩
theorem xX8 (c:UInt8)(st:ISt):ICall prog gl 212 [.raw (.int .u8 c.toNat)] st (λx st'=>x=.raw (.bool (yVn c))/\st'=st):=by
 refine iI func212 ?_;simp only[go_sem,reduceCtorEq];refine yJo (λh=>?_) (λh=>?_)
 ·have h':(65:Nat)<=c.toNat:=by simp at h;omega
  simp only[go_sem,zE,reduceCtorEq];exact yQ0 ⟨by congr 3;simp[yVn,inB,h'];omega,rfl⟩
 ·have h':¬ (65:Nat)<=c.toNat:=by simp at h;omega
  simp only[go_sem,zE];exact yQ0 ⟨by simp[yVn,inB,h'],rfl⟩
theorem vK3 (c:UInt8)(st:ISt):ICall prog gl 214 [.raw (.int .u8 c.toNat)] st (λx st'=>x=.raw (.bool (inB 117 122 c))/\st'=st):=by
 refine iI func214 ?_;simp only[go_sem,reduceCtorEq];refine yJo (λh=>?_) (λh=>?_)
 ·have h':(117:Nat)<=c.toNat:=by simp at h;omega
  simp only[go_sem,zE,reduceCtorEq];exact yQ0 ⟨by congr 3;simp[inB,h'];omega,rfl⟩
 ·have h':¬ (117:Nat)<=c.toNat:=by simp at h;omega
  simp only[go_sem,zE];exact yQ0 ⟨by simp[inB,h'],rfl⟩
theorem vVv (c:UInt8)(st:ISt):ICall prog gl 235 [.raw (.int .u8 c.toNat)] st (λx st'=>x=.raw (.bool (inB 97 116 c))/\st'=st):=by
 refine iI func235 ?_;simp only[go_sem,reduceCtorEq];refine yJo (λh=>?_) (λh=>?_)
 ·have h':(97:Nat)<=c.toNat:=by simp at h;omega
  simp only[go_sem,zE,reduceCtorEq];exact yQ0 ⟨by congr 3;simp[inB,h'];omega,rfl⟩
 ·have h':¬ (97:Nat)<=c.toNat:=by simp at h;omega
  simp only[go_sem,zE];exact yQ0 ⟨by simp[inB,h'],rfl⟩
theorem wKo (c:UInt8)(st:ISt):ICall prog gl 213 [.raw (.int .u8 c.toNat)] st (λx st'=>x=.raw (.bool (yG7 c))/\st'=st):=by
 refine iI func213 ?_;simp only[go_sem,zA,reduceCtorEq];refine (vQa gl c _).mono ?_;rintro _ _ ⟨rfl,rfl⟩;cases h1:zKs c
 ·simp only[go_sem,zE,zA,reduceCtorEq];refine (xX8 gl c _).mono ?_;rintro _ _ ⟨rfl,rfl⟩;cases h2:yVn c
  ·simp only[go_sem,zE,zA,reduceCtorEq];refine (wK2 gl c _).mono ?_;rintro _ _ ⟨rfl,rfl⟩;simp only[go_sem,zE];exact yQ0 ⟨by simp[yG7,h1,h2],rfl⟩
  ·simp only[go_sem,zE];exact yQ0 ⟨by simp[yG7,h1,h2],rfl⟩
 ·simp only[go_sem,zE];exact yQ0 ⟨by simp[yG7,h1],rfl⟩
