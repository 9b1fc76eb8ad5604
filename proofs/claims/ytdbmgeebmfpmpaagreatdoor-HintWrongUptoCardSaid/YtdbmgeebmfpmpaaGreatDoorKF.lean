/- Walks: lists of names; equality of terms -/
import Derived.Test.YtdbmgeebmfpmpaaGreatDoorJJ
import Derived.Test.YtdbmgeebmfpmpaaGreatDoorJK
set_option linter.all false
open Nat renaming reduceEqDiff → zE,reduceAdd → zA
namespace Go.Proofs.Tryz
open Go Go.Iv
set_option maxRecDepth 4000
open Classical in
noncomputable def eqB {α:Type}(a b:α):Bool:=decide (a=b)
theorem yZ7 {α:Type}{a b:α}:eqB a b=true↔a=b:=by simp[eqB]
theorem yQp {α:Type}{a b:α}:eqB a b=false↔a≠b:=by simp[eqB]
theorem xYz {v:Bool}{n:ByteArray}{us:List Tm}{l:List Tm}(h:Tm.mk v n us∈l):SizeOf.sizeOf us<SizeOf.sizeOf l:=by
 have:=lSm h;simp at this;omega
end Go.Proofs.Tryz
namespace Go.Proofs.Tryz
open Go Go.Iv
set_option maxRecDepth 4000
variable (gl:Nat->Option IV)
theorem wJf (c:UInt8)(st:ISt):ICall prog gl 217 [.raw (.int .u8 c.toNat)] st (λx st'=>x=.raw (.bool (zZ7 c))/\st'=st):=by
 refine iI func217 ?_;simp only[go_sem,reduceCtorEq];refine yJ6 (λh=>?_) (λh=>?_)
 ·have h':(48:Nat)<=c.toNat:=by simp at h;omega
  simp only[go_sem,zE,reduceCtorEq];exact yQ0 ⟨by congr 3;simp[zZ7,inB,h'];omega,rfl⟩
 ·have h':¬ (48:Nat)<=c.toNat:=by simp at h;omega
  simp only[go_sem,zE];exact yQ0 ⟨by simp[zZ7,inB,h'],rfl⟩
theorem wUa (c:UInt8)(st:ISt):ICall prog gl 249 [.raw (.int .u8 c.toNat)] st (λx st'=>x=.raw (.bool (zK3 c))/\st'=st):=by
 refine iI func249 ?_;simp only[go_sem,reduceCtorEq];refine yJ6 (λh=>?_) (λh=>?_)
 ·have h':(97:Nat)<=c.toNat:=by simp at h;omega
  simp only[go_sem,zE,reduceCtorEq];exact yQ0 ⟨by congr 3;simp[zK3,inB,h'];omega,rfl⟩
 ·have h':¬ (97:Nat)<=c.toNat:=by simp at h;omega
  simp only[go_sem,zE];exact yQ0 ⟨by simp[zK3,inB,h'],rfl⟩
theorem xZ9 (c:UInt8)(st:ISt):ICall prog gl 234 [.raw (.int .u8 c.toNat)] st (λx st'=>x=.raw (.bool (yKu c))/\st'=st):=by
 refine iI func234 ?_;simp only[go_sem,reduceCtorEq];refine yJ6 (λh=>?_) (λh=>?_)
 ·have h':(65:Nat)<=c.toNat:=by simp at h;omega
  simp only[go_sem,zE,reduceCtorEq];exact yQ0 ⟨by congr 3;simp[yKu,inB,h'];omega,rfl⟩
 ·have h':¬ (65:Nat)<=c.toNat:=by simp at h;omega
  simp only[go_sem,zE];exact yQ0 ⟨by simp[yKu,inB,h'],rfl⟩
theorem vJ2 (c:UInt8)(st:ISt):ICall prog gl 216 [.raw (.int .u8 c.toNat)] st (λx st'=>x=.raw (.bool (inB 117 122 c))/\st'=st):=by
 refine iI func216 ?_;simp only[go_sem,reduceCtorEq];refine yJ6 (λh=>?_) (λh=>?_)
 ·have h':(117:Nat)<=c.toNat:=by simp at h;omega
  simp only[go_sem,zE,reduceCtorEq];exact yQ0 ⟨by congr 3;simp[inB,h'];omega,rfl⟩
 ·have h':¬ (117:Nat)<=c.toNat:=by simp at h;omega
  simp only[go_sem,zE];exact yQ0 ⟨by simp[inB,h'],rfl⟩
theorem vKu (c:UInt8)(st:ISt):ICall prog gl 219 [.raw (.int .u8 c.toNat)] st (λx st'=>x=.raw (.bool (inB 97 116 c))/\st'=st):=by
 refine iI func219 ?_;simp only[go_sem,reduceCtorEq];refine yJ6 (λh=>?_) (λh=>?_)
 ·have h':(97:Nat)<=c.toNat:=by simp at h;omega
  simp only[go_sem,zE,reduceCtorEq];exact yQ0 ⟨by congr 3;simp[inB,h'];omega,rfl⟩
 ·have h':¬ (97:Nat)<=c.toNat:=by simp at h;omega
  simp only[go_sem,zE];exact yQ0 ⟨by simp[inB,h'],rfl⟩
theorem wJv (c:UInt8)(st:ISt):ICall prog gl 220 [.raw (.int .u8 c.toNat)] st (λx st'=>x=.raw (.bool (yYp c))/\st'=st):=by
 refine iI func220 ?_;simp only[go_sem,zA,reduceCtorEq];refine (wUa gl c _).mono ?_;rintro _ _ ⟨rfl,rfl⟩;cases h1:zK3 c
 ·simp only[go_sem,zE,zA,reduceCtorEq];refine (xZ9 gl c _).mono ?_;rintro _ _ ⟨rfl,rfl⟩;cases h2:yKu c
  ·simp only[go_sem,zE,zA,reduceCtorEq];refine (wJf gl c _).mono ?_;rintro _ _ ⟨rfl,rfl⟩;simp only[go_sem,zE];exact yQ0 ⟨by simp[yYp,h1,h2],rfl⟩
  ·simp only[go_sem,zE];exact yQ0 ⟨by simp[yYp,h1,h2],rfl⟩
 ·simp only[go_sem,zE];exact yQ0 ⟨by simp[yYp,h1],rfl⟩
