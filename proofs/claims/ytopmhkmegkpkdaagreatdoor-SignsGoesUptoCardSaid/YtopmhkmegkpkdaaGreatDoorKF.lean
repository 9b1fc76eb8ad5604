/- Walks: lists of names; equality of terms -/
import Derived.Test.YtopmhkmegkpkdaaGreatDoorJJ
import Derived.Test.YtopmhkmegkpkdaaGreatDoorJK
set_option linter.all false
open Nat renaming reduceEqDiff → zE,reduceAdd → zA
namespace Go.Proofs.Tryz
open Go Go.Iv
set_option maxRecDepth 4000
open Classical in
noncomputable def eqB {α:Type}(a b:α):Bool:=decide (a=b)
def yZ5 {α:Type}{a b:α}:eqB a b=true↔a=b:=by simp[eqB]
def yQt {α:Type}{a b:α}:eqB a b=false↔a≠b:=by simp[eqB]
def Lw {v:Bool}{n:ByteArray}{us:List Tm}{l:List Tm}(h:Tm.mk v n us∈l):SizeOf.sizeOf us<SizeOf.sizeOf l:=by
 have:=lSm h;simp at this;omega
end Go.Proofs.Tryz
namespace Go.Proofs.Tryz
open Go Go.Iv
set_option maxRecDepth 4000
variable (gl:Nat->Option IV)
def BM (c:UInt8)(st:ISt):ICall prog gl 251 [.raw (.int .u8 c.toNat)] st (λx st'=>x=(lp c:Bool)/\st'=st):=by
 refine iI func251 ?_;simp only[go_sem,reduceCtorEq];refine pT (λh=>?_) (λh=>?_)
 ·have A:(48:Nat)<=c.toNat:=by simp at h;omega
  simp only[go_sem,zE,reduceCtorEq];exact cO ⟨by congr 3;simp[lp,inB,A];omega,rfl⟩
 ·have A:¬ (48:Nat)<=c.toNat:=by simp at h;omega
  simp only[go_sem,zE];exact cO ⟨by simp[lp,inB,A],rfl⟩
def Lx (c:UInt8)(st:ISt):ICall prog gl 274 [.raw (.int .u8 c.toNat)] st (λx st'=>x=(mW c:Bool)/\st'=st):=by
 refine iI func274 ?_;simp only[go_sem,reduceCtorEq];refine pT (λh=>?_) (λh=>?_)
 ·have A:(97:Nat)<=c.toNat:=by simp at h;omega
  simp only[go_sem,zE,reduceCtorEq];exact cO ⟨by congr 3;simp[mW,inB,A];omega,rfl⟩
 ·have A:¬ (97:Nat)<=c.toNat:=by simp at h;omega
  simp only[go_sem,zE];exact cO ⟨by simp[mW,inB,A],rfl⟩
def BO (c:UInt8)(st:ISt):ICall prog gl 248 [.raw (.int .u8 c.toNat)] st (λx st'=>x=(lY c:Bool)/\st'=st):=by
 refine iI func248 ?_;simp only[go_sem,reduceCtorEq];refine pT (λh=>?_) (λh=>?_)
 ·have A:(65:Nat)<=c.toNat:=by simp at h;omega
  simp only[go_sem,zE,reduceCtorEq];exact cO ⟨by congr 3;simp[lY,inB,A];omega,rfl⟩
 ·have A:¬ (65:Nat)<=c.toNat:=by simp at h;omega
  simp only[go_sem,zE];exact cO ⟨by simp[lY,inB,A],rfl⟩
def JH (c:UInt8)(st:ISt):ICall prog gl 250 [.raw (.int .u8 c.toNat)] st (λx st'=>x=(inB 117 122 c:Bool)/\st'=st):=by
 refine iI func250 ?_;simp only[go_sem,reduceCtorEq];refine pT (λh=>?_) (λh=>?_)
 ·have A:(117:Nat)<=c.toNat:=by simp at h;omega
  simp only[go_sem,zE,reduceCtorEq];exact cO ⟨by congr 3;simp[inB,A];omega,rfl⟩
 ·have A:¬ (117:Nat)<=c.toNat:=by simp at h;omega
  simp only[go_sem,zE];exact cO ⟨by simp[inB,A],rfl⟩
def JJ (c:UInt8)(st:ISt):ICall prog gl 276 [.raw (.int .u8 c.toNat)] st (λx st'=>x=(inB 97 116 c:Bool)/\st'=st):=by
 refine iI func276 ?_;simp only[go_sem,reduceCtorEq];refine pT (λh=>?_) (λh=>?_)
 ·have A:(97:Nat)<=c.toNat:=by simp at h;omega
  simp only[go_sem,zE,reduceCtorEq];exact cO ⟨by congr 3;simp[inB,A];omega,rfl⟩
 ·have A:¬ (97:Nat)<=c.toNat:=by simp at h;omega
  simp only[go_sem,zE];exact cO ⟨by simp[inB,A],rfl⟩
def BN (c:UInt8)(st:ISt):ICall prog gl 249 [.raw (.int .u8 c.toNat)] st (λx st'=>x=(ml c:Bool)/\st'=st):=by
 refine iI func249 ?_;simp only[go_sem,zA,reduceCtorEq];refine (Lx gl c _).q ?_;cases h1:mW c
 ·simp only[go_sem,zE,zA,reduceCtorEq];refine (BO gl c _).q ?_;cases h2:lY c
  ·simp only[go_sem,zE,zA,reduceCtorEq];refine (BM gl c _).q ?_;simp only[go_sem,zE];exact cO ⟨by simp[ml,h1,h2],rfl⟩
  ·simp only[go_sem,zE];exact cO ⟨by simp[ml,h1,h2],rfl⟩
 ·simp only[go_sem,zE];exact cO ⟨by simp[ml,h1],rfl⟩
