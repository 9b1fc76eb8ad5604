/- Walks: lists of names; equality of terms -/
import Derived.Test.YtddfdpbibloljaaGreatDoorJJ
import Derived.Test.YtddfdpbibloljaaGreatDoorJK
set_option linter.all false
open Nat renaming reduceEqDiff → zE,reduceAdd → zA
namespace Go.Proofs.Tryz
open Go Go.Iv
set_option maxRecDepth 4000
end Go.Proofs.Tryz
namespace Go.Proofs.Tryz
open Go Go.Iv
set_option maxRecDepth 4000
open Classical in
noncomputable def eqB {α:Type}(a b:α):Bool:=decide (a=b)
theorem yZ6 {α:Type}{a b:α}:eqB a b=true↔a=b:=by simp[eqB]
theorem yQl {α:Type}{a b:α}:eqB a b=false↔a≠b:=by simp[eqB]
theorem xYk {v:Bool}{n:ByteArray}{us:List Tm}{l:List Tm}(h:Tm.mk v n us∈l):SizeOf.sizeOf us<SizeOf.sizeOf l:=by
 have:=lSm h;simp at this;omega
end Go.Proofs.Tryz
namespace Go.Proofs.Tryz
open Go Go.Iv
set_option maxRecDepth 4000
variable (gl:Nat->Option IV)
theorem wJ0 (c:UInt8)(st:ISt):ICall prog gl 215 [.raw (.int .u8 c.toNat)] st (λx st'=>x=.raw (.bool (zZ9 c))/\st'=st):=by
 refine iI func215 ?_;simp only[go_sem,reduceCtorEq];refine yJm (λh=>?_) (λh=>?_)
 ·have h':(48:Nat)<=c.toNat:=by simp at h;omega
  simp only[go_sem,zE,reduceCtorEq];exact yQ0 ⟨by congr 3;simp[zZ9,inB,h'];omega,rfl⟩
 ·have h':¬ (48:Nat)<=c.toNat:=by simp at h;omega
  simp only[go_sem,zE];exact yQ0 ⟨by simp[zZ9,inB,h'],rfl⟩
theorem wU4 (c:UInt8)(st:ISt):ICall prog gl 233 [.raw (.int .u8 c.toNat)] st (λx st'=>x=.raw (.bool (zK8 c))/\st'=st):=by
 refine iI func233 ?_;simp only[go_sem,reduceCtorEq];refine yJm (λh=>?_) (λh=>?_)
 ·have h':(97:Nat)<=c.toNat:=by simp at h;omega
  simp only[go_sem,zE,reduceCtorEq];exact yQ0 ⟨by congr 3;simp[zK8,inB,h'];omega,rfl⟩
 ·have h':¬ (97:Nat)<=c.toNat:=by simp at h;omega
  simp only[go_sem,zE];exact yQ0 ⟨by simp[zK8,inB,h'],rfl⟩
theorem xZi (c:UInt8)(st:ISt):ICall prog gl 212 [.raw (.int .u8 c.toNat)] st (λx st'=>x=.raw (.bool (yVi c))/\st'=st):=by
 refine iI func212 ?_;simp only[go_sem,reduceCtorEq];refine yJm (λh=>?_) (λh=>?_)
 ·have h':(65:Nat)<=c.toNat:=by simp at h;omega
  simp only[go_sem,zE,reduceCtorEq];exact yQ0 ⟨by congr 3;simp[yVi,inB,h'];omega,rfl⟩
 ·have h':¬ (65:Nat)<=c.toNat:=by simp at h;omega
  simp only[go_sem,zE];exact yQ0 ⟨by simp[yVi,inB,h'],rfl⟩
theorem vXz (c:UInt8)(st:ISt):ICall prog gl 214 [.raw (.int .u8 c.toNat)] st (λx st'=>x=.raw (.bool (inB 117 122 c))/\st'=st):=by
 refine iI func214 ?_;simp only[go_sem,reduceCtorEq];refine yJm (λh=>?_) (λh=>?_)
 ·have h':(117:Nat)<=c.toNat:=by simp at h;omega
  simp only[go_sem,zE,reduceCtorEq];exact yQ0 ⟨by congr 3;simp[inB,h'];omega,rfl⟩
 ·have h':¬ (117:Nat)<=c.toNat:=by simp at h;omega
  simp only[go_sem,zE];exact yQ0 ⟨by simp[inB,h'],rfl⟩
theorem vKq (c:UInt8)(st:ISt):ICall prog gl 235 [.raw (.int .u8 c.toNat)] st (λx st'=>x=.raw (.bool (inB 97 116 c))/\st'=st):=by
 refine iI func235 ?_;simp only[go_sem,reduceCtorEq];refine yJm (λh=>?_) (λh=>?_)
 ·have h':(97:Nat)<=c.toNat:=by simp at h;omega
  simp only[go_sem,zE,reduceCtorEq];exact yQ0 ⟨by congr 3;simp[inB,h'];omega,rfl⟩
 ·have h':¬ (97:Nat)<=c.toNat:=by simp at h;omega
  simp only[go_sem,zE];exact yQ0 ⟨by simp[inB,h'],rfl⟩
theorem wJl (c:UInt8)(st:ISt):ICall prog gl 213 [.raw (.int .u8 c.toNat)] st (λx st'=>x=.raw (.bool (yG0 c))/\st'=st):=by
 refine iI func213 ?_;simp only[go_sem,zA,reduceCtorEq];refine (wU4 gl c _).mono ?_;rintro _ _ ⟨rfl,rfl⟩;cases h1:zK8 c
 ·simp only[go_sem,zE,zA,reduceCtorEq];refine (xZi gl c _).mono ?_;rintro _ _ ⟨rfl,rfl⟩;cases h2:yVi c
  ·simp only[go_sem,zE,zA,reduceCtorEq];refine (wJ0 gl c _).mono ?_;rintro _ _ ⟨rfl,rfl⟩;simp only[go_sem,zE];exact yQ0 ⟨by simp[yG0,h1,h2],rfl⟩
  ·simp only[go_sem,zE];exact yQ0 ⟨by simp[yG0,h1,h2],rfl⟩
 ·simp only[go_sem,zE];exact yQ0 ⟨by simp[yG0,h1],rfl⟩
