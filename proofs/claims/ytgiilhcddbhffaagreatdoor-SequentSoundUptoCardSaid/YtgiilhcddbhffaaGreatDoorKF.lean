/- Walks: lists of names; equality of terms -/
import Derived.Test.YtgiilhcddbhffaaGreatDoorJJ
import Derived.Test.YtgiilhcddbhffaaGreatDoorJK
set_option linter.all false
namespace Go.Proofs.Tryz
open Go Go.Iv
set_option maxRecDepth 4000
end Go.Proofs.Tryz
namespace Go.Proofs.Tryz
open Go Go.Iv
set_option maxRecDepth 4000
open Classical in
noncomputable def eqB {α:Type}(a b:α):Bool:=decide (a=b)
theorem yZ7 {α:Type}{a b:α}:eqB a b=true↔a=b:=by simp[eqB]
theorem yQn {α:Type}{a b:α}:eqB a b=false↔a≠b:=by simp[eqB]
theorem xW8 {v:Bool}{n:ByteArray}{us:List Tm}{l:List Tm}(h:Tm.mk v n us∈l):SizeOf.sizeOf us<SizeOf.sizeOf l:=by
 have:=lSm h
 simp at this; omega
end Go.Proofs.Tryz
namespace Go.Proofs.Tryz
open Go Go.Iv
set_option maxRecDepth 4000
variable (gl:Nat→Option IV)
theorem wZm (c:UInt8)(st:ISt):ICall prog gl 287 [.raw (.int .u8 c.toNat)] st (fun x st'=>x=.raw (.bool (yWg c))∧st'=st):=by
 refine iI func287 rfl rfl (by kernel_rfl) ?_
 simp(config:=zzC)only[go_sem]
 refine yJl (fun h=>?_) (fun h=>?_)
 ·have h':(48:Nat)≤c.toNat:=by simp at h; omega
  simp(config:=zzC)only[go_sem]
  exact yQ0 ⟨by congr 3; simp[yWg,inB,h']; omega,rfl⟩
 ·have h':¬ (48:Nat)≤c.toNat:=by simp at h; omega
  simp(config:=zzC)only[go_sem]
  exact yQ0 ⟨by simp[yWg,inB,h'],rfl⟩
theorem wYm (c:UInt8)(st:ISt):ICall prog gl 316 [.raw (.int .u8 c.toNat)] st (fun x st'=>x=.raw (.bool (zJ4 c))∧st'=st):=by
 refine iI func316 rfl rfl (by kernel_rfl) ?_
 simp(config:=zzC)only[go_sem]
 refine yJl (fun h=>?_) (fun h=>?_)
 ·have h':(97:Nat)≤c.toNat:=by simp at h; omega
  simp(config:=zzC)only[go_sem]
  exact yQ0 ⟨by congr 3; simp[zJ4,inB,h']; omega,rfl⟩
 ·have h':¬ (97:Nat)≤c.toNat:=by simp at h; omega
  simp(config:=zzC)only[go_sem]
  exact yQ0 ⟨by simp[zJ4,inB,h'],rfl⟩
theorem xQ6 (c:UInt8)(st:ISt):ICall prog gl 312 [.raw (.int .u8 c.toNat)] st (fun x st'=>x=.raw (.bool (yV8 c))∧st'=st):=by
 refine iI func312 rfl rfl (by kernel_rfl) ?_
 simp(config:=zzC)only[go_sem]
 refine yJl (fun h=>?_) (fun h=>?_)
 ·have h':(65:Nat)≤c.toNat:=by simp at h; omega
  simp(config:=zzC)only[go_sem]
  exact yQ0 ⟨by congr 3; simp[yV8,inB,h']; omega,rfl⟩
 ·have h':¬ (65:Nat)≤c.toNat:=by simp at h; omega
  simp(config:=zzC)only[go_sem]
  exact yQ0 ⟨by simp[yV8,inB,h'],rfl⟩
theorem vQx (c:UInt8)(st:ISt):ICall prog gl 286 [.raw (.int .u8 c.toNat)] st (fun x st'=>x=.raw (.bool (inB 117 122 c))∧st'=st):=by
 refine iI func286 rfl rfl (by kernel_rfl) ?_
 simp(config:=zzC)only[go_sem]
 refine yJl (fun h=>?_) (fun h=>?_)
 ·have h':(117:Nat)≤c.toNat:=by simp at h; omega
  simp(config:=zzC)only[go_sem]
  exact yQ0 ⟨by congr 3; simp[inB,h']; omega,rfl⟩
 ·have h':¬ (117:Nat)≤c.toNat:=by simp at h; omega
  simp(config:=zzC)only[go_sem]
  exact yQ0 ⟨by simp[inB,h'],rfl⟩
theorem vXu (c:UInt8)(st:ISt):ICall prog gl 289 [.raw (.int .u8 c.toNat)] st (fun x st'=>x=.raw (.bool (inB 97 116 c))∧st'=st):=by
 refine iI func289 rfl rfl (by kernel_rfl) ?_
 simp(config:=zzC)only[go_sem]
 refine yJl (fun h=>?_) (fun h=>?_)
 ·have h':(97:Nat)≤c.toNat:=by simp at h; omega
  simp(config:=zzC)only[go_sem]
  exact yQ0 ⟨by congr 3; simp[inB,h']; omega,rfl⟩
 ·have h':¬ (97:Nat)≤c.toNat:=by simp at h; omega
  simp(config:=zzC)only[go_sem]
  exact yQ0 ⟨by simp[inB,h'],rfl⟩
theorem wX0 (c:UInt8)(st:ISt):ICall prog gl 290 [.raw (.int .u8 c.toNat)] st (fun x st'=>x=.raw (.bool (yYf c))∧st'=st):=by
 refine iI func290 rfl rfl (by kernel_rfl) ?_
 simp(config:=zzC)only[go_sem]
 refine (wYm gl c _).mono ?_
 rintro _ _ ⟨rfl,rfl⟩
 cases h1:zJ4 c
 ·simp(config:=zzC)only[go_sem]
  refine (xQ6 gl c _).mono ?_
  rintro _ _ ⟨rfl,rfl⟩
  cases h2:yV8 c
  ·simp(config:=zzC)only[go_sem]
   refine (wZm gl c _).mono ?_
   rintro _ _ ⟨rfl,rfl⟩
   simp(config:=zzC)only[go_sem]
   exact yQ0 ⟨by simp[yYf,h1,h2],rfl⟩
  ·simp(config:=zzC)only[go_sem]
   exact yQ0 ⟨by simp[yYf,h1,h2],rfl⟩
 ·simp(config:=zzC)only[go_sem]
  exact yQ0 ⟨by simp[yYf,h1],rfl⟩
end Go.Proofs.Tryz
