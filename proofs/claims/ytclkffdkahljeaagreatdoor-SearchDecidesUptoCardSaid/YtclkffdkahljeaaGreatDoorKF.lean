/- Walks: lists of names; equality of terms -/
import Derived.Test.YtclkffdkahljeaaGreatDoorJJ
import Derived.Test.YtclkffdkahljeaaGreatDoorJK
set_option linter.all false
open Nat renaming reduceEqDiff → zE,reduceAdd → zA
namespace Go.Proofs.Tryz
open Go Go.Iv
set_option maxRecDepth 4000
end Go.Proofs.Tryz
namespace Go.Proofs.Tryz
open Go Go.Iv
set_option maxRecDepth 4000
open Classical in
noncomputable def eqB {α:Type}(a b:α):Bool:=decide (a=b)
theorem yZ5 {α:Type}{a b:α}:eqB a b=true↔a=b:=by simp[eqB]
theorem yQj {α:Type}{a b:α}:eqB a b=false↔a≠b:=by simp[eqB]
theorem xK9 {v:Bool}{n:ByteArray}{us:List Tm}{l:List Tm}(h:Tm.mk v n us∈l):SizeOf.sizeOf us<SizeOf.sizeOf l:=by
 have:=lSm h;simp at this;omega
end Go.Proofs.Tryz
namespace Go.Proofs.Tryz
open Go Go.Iv
set_option maxRecDepth 4000
variable (gl:Nat->Option IV)
theorem xUl (c:UInt8)(st:ISt):ICall prog gl 237 [.raw (.int .u8 c.toNat)] st (λx st'=>x=.raw (.bool (yUw c))/\st'=st):=by
 refine iI func237 ?_;simp only[go_sem,reduceCtorEq];refine yXw (λh=>?_) (λh=>?_)
 ·have h':(48:Nat)<=c.toNat:=by simp at h;omega
  simp only[go_sem,zE,reduceCtorEq];exact yQ0 ⟨by congr 3;simp[yUw,inB,h'];omega,rfl⟩
 ·have h':¬ (48:Nat)<=c.toNat:=by simp at h;omega
  simp only[go_sem,zE];exact yQ0 ⟨by simp[yUw,inB,h'],rfl⟩
theorem wVb (c:UInt8)(st:ISt):ICall prog gl 260 [.raw (.int .u8 c.toNat)] st (λx st'=>x=.raw (.bool (zX6 c))/\st'=st):=by
 refine iI func260 ?_;simp only[go_sem,reduceCtorEq];refine yXw (λh=>?_) (λh=>?_)
 ·have h':(97:Nat)<=c.toNat:=by simp at h;omega
  simp only[go_sem,zE,reduceCtorEq];exact yQ0 ⟨by congr 3;simp[zX6,inB,h'];omega,rfl⟩
 ·have h':¬ (97:Nat)<=c.toNat:=by simp at h;omega
  simp only[go_sem,zE];exact yQ0 ⟨by simp[zX6,inB,h'],rfl⟩
theorem zGp (c:UInt8)(st:ISt):ICall prog gl 234 [.raw (.int .u8 c.toNat)] st (λx st'=>x=.raw (.bool (yK7 c))/\st'=st):=by
 refine iI func234 ?_;simp only[go_sem,reduceCtorEq];refine yXw (λh=>?_) (λh=>?_)
 ·have h':(65:Nat)<=c.toNat:=by simp at h;omega
  simp only[go_sem,zE,reduceCtorEq];exact yQ0 ⟨by congr 3;simp[yK7,inB,h'];omega,rfl⟩
 ·have h':¬ (65:Nat)<=c.toNat:=by simp at h;omega
  simp only[go_sem,zE];exact yQ0 ⟨by simp[yK7,inB,h'],rfl⟩
theorem wU2 (c:UInt8)(st:ISt):ICall prog gl 236 [.raw (.int .u8 c.toNat)] st (λx st'=>x=.raw (.bool (inB 117 122 c))/\st'=st):=by
 refine iI func236 ?_;simp only[go_sem,reduceCtorEq];refine yXw (λh=>?_) (λh=>?_)
 ·have h':(117:Nat)<=c.toNat:=by simp at h;omega
  simp only[go_sem,zE,reduceCtorEq];exact yQ0 ⟨by congr 3;simp[inB,h'];omega,rfl⟩
 ·have h':¬ (117:Nat)<=c.toNat:=by simp at h;omega
  simp only[go_sem,zE];exact yQ0 ⟨by simp[inB,h'],rfl⟩
theorem vQo (c:UInt8)(st:ISt):ICall prog gl 262 [.raw (.int .u8 c.toNat)] st (λx st'=>x=.raw (.bool (inB 97 116 c))/\st'=st):=by
 refine iI func262 ?_;simp only[go_sem,reduceCtorEq];refine yXw (λh=>?_) (λh=>?_)
 ·have h':(97:Nat)<=c.toNat:=by simp at h;omega
  simp only[go_sem,zE,reduceCtorEq];exact yQ0 ⟨by congr 3;simp[inB,h'];omega,rfl⟩
 ·have h':¬ (97:Nat)<=c.toNat:=by simp at h;omega
  simp only[go_sem,zE];exact yQ0 ⟨by simp[inB,h'],rfl⟩
theorem wQ3 (c:UInt8)(st:ISt):ICall prog gl 235 [.raw (.int .u8 c.toNat)] st (λx st'=>x=.raw (.bool (yWf c))/\st'=st):=by
 refine iI func235 ?_;simp only[go_sem,zA,reduceCtorEq];refine (wVb gl c _).mono ?_;rintro _ _ ⟨rfl,rfl⟩;cases h1:zX6 c
 ·simp only[go_sem,zE,zA,reduceCtorEq];refine (zGp gl c _).mono ?_;rintro _ _ ⟨rfl,rfl⟩;cases h2:yK7 c
  ·simp only[go_sem,zE,zA,reduceCtorEq];refine (xUl gl c _).mono ?_;rintro _ _ ⟨rfl,rfl⟩;simp only[go_sem,zE];exact yQ0 ⟨by simp[yWf,h1,h2],rfl⟩
  ·simp only[go_sem,zE];exact yQ0 ⟨by simp[yWf,h1,h2],rfl⟩
 ·simp only[go_sem,zE];exact yQ0 ⟨by simp[yWf,h1],rfl⟩
