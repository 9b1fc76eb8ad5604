/- Walks: lists of names; equality of terms -/
import Derived.Test.YtabhgbojkjcfjaaGreatDoorJJ
import Derived.Test.YtabhgbojkjcfjaaGreatDoorJK
set_option linter.all false
open Nat renaming reduceEqDiff → zE,reduceAdd → zA
namespace Go.Proofs.Tryz
open Go Go.Iv
set_option maxRecDepth 4000
end Go.Proofs.Tryz
namespace Go.Proofs.Tryz
open Go Go.Iv
set_option maxRecDepth 4000
open Classical in
noncomputable def eqB {α:Type}(a b:α):Bool:=decide (a=b)
theorem yZ6 {α:Type}{a b:α}:eqB a b=true↔a=b:=by simp[eqB]
theorem yQl {α:Type}{a b:α}:eqB a b=false↔a≠b:=by simp[eqB]
theorem xW9 {v:Bool}{n:ByteArray}{us:List Tm}{l:List Tm}(h:Tm.mk v n us∈l):SizeOf.sizeOf us<SizeOf.sizeOf l:=by
 have:=lSm h;simp at this;omega
end Go.Proofs.Tryz
namespace Go.Proofs.Tryz
open Go Go.Iv
set_option maxRecDepth 4000
variable (gl:Nat->Option IV)
theorem wZp (c:UInt8)(st:ISt):ICall prog gl 288 [.raw (.int .u8 c.toNat)] st (λx st'=>x=.raw (.bool (yWj c))/\st'=st):=by
 refine iI func288 ?_;simp only[go_sem,reduceCtorEq];refine yJl (λh=>?_) (λh=>?_)
 ·have h':(48:Nat)<=c.toNat:=by simp at h;omega
  simp only[go_sem,zE,reduceCtorEq];exact yQ0 ⟨by congr 3;simp[yWj,inB,h'];omega,rfl⟩
 ·have h':¬ (48:Nat)<=c.toNat:=by simp at h;omega
  simp only[go_sem,zE];exact yQ0 ⟨by simp[yWj,inB,h'],rfl⟩
theorem wYo (c:UInt8)(st:ISt):ICall prog gl 317 [.raw (.int .u8 c.toNat)] st (λx st'=>x=.raw (.bool (zJ7 c))/\st'=st):=by
 refine iI func317 ?_;simp only[go_sem,reduceCtorEq];refine yJl (λh=>?_) (λh=>?_)
 ·have h':(97:Nat)<=c.toNat:=by simp at h;omega
  simp only[go_sem,zE,reduceCtorEq];exact yQ0 ⟨by congr 3;simp[zJ7,inB,h'];omega,rfl⟩
 ·have h':¬ (97:Nat)<=c.toNat:=by simp at h;omega
  simp only[go_sem,zE];exact yQ0 ⟨by simp[zJ7,inB,h'],rfl⟩
theorem xQ7 (c:UInt8)(st:ISt):ICall prog gl 313 [.raw (.int .u8 c.toNat)] st (λx st'=>x=.raw (.bool (yVa c))/\st'=st):=by
 refine iI func313 ?_;simp only[go_sem,reduceCtorEq];refine yJl (λh=>?_) (λh=>?_)
 ·have h':(65:Nat)<=c.toNat:=by simp at h;omega
  simp only[go_sem,zE,reduceCtorEq];exact yQ0 ⟨by congr 3;simp[yVa,inB,h'];omega,rfl⟩
 ·have h':¬ (65:Nat)<=c.toNat:=by simp at h;omega
  simp only[go_sem,zE];exact yQ0 ⟨by simp[yVa,inB,h'],rfl⟩
theorem vQx (c:UInt8)(st:ISt):ICall prog gl 287 [.raw (.int .u8 c.toNat)] st (λx st'=>x=.raw (.bool (inB 117 122 c))/\st'=st):=by
 refine iI func287 ?_;simp only[go_sem,reduceCtorEq];refine yJl (λh=>?_) (λh=>?_)
 ·have h':(117:Nat)<=c.toNat:=by simp at h;omega
  simp only[go_sem,zE,reduceCtorEq];exact yQ0 ⟨by congr 3;simp[inB,h'];omega,rfl⟩
 ·have h':¬ (117:Nat)<=c.toNat:=by simp at h;omega
  simp only[go_sem,zE];exact yQ0 ⟨by simp[inB,h'],rfl⟩
theorem vXu (c:UInt8)(st:ISt):ICall prog gl 290 [.raw (.int .u8 c.toNat)] st (λx st'=>x=.raw (.bool (inB 97 116 c))/\st'=st):=by
 refine iI func290 ?_;simp only[go_sem,reduceCtorEq];refine yJl (λh=>?_) (λh=>?_)
 ·have h':(97:Nat)<=c.toNat:=by simp at h;omega
  simp only[go_sem,zE,reduceCtorEq];exact yQ0 ⟨by congr 3;simp[inB,h'];omega,rfl⟩
 ·have h':¬ (97:Nat)<=c.toNat:=by simp at h;omega
  simp only[go_sem,zE];exact yQ0 ⟨by simp[inB,h'],rfl⟩
theorem wX3 (c:UInt8)(st:ISt):ICall prog gl 291 [.raw (.int .u8 c.toNat)] st (λx st'=>x=.raw (.bool (yYi c))/\st'=st):=by
 refine iI func291 ?_;simp only[go_sem,zA,reduceCtorEq];refine (wYo gl c _).mono ?_;rintro _ _ ⟨rfl,rfl⟩;cases h1:zJ7 c
 ·simp only[go_sem,zE,zA,reduceCtorEq];refine (xQ7 gl c _).mono ?_;rintro _ _ ⟨rfl,rfl⟩;cases h2:yVa c
  ·simp only[go_sem,zE,zA,reduceCtorEq];refine (wZp gl c _).mono ?_;rintro _ _ ⟨rfl,rfl⟩;simp only[go_sem,zE];exact yQ0 ⟨by simp[yYi,h1,h2],rfl⟩
  ·simp only[go_sem,zE];exact yQ0 ⟨by simp[yYi,h1,h2],rfl⟩
 ·simp only[go_sem,zE];exact yQ0 ⟨by simp[yYi,h1],rfl⟩
