/- Walks: lists of names; equality of terms -/
import Derived.Test.YtigeiecfkoimpaaGreatDoorJJ
import Derived.Test.YtigeiecfkoimpaaGreatDoorJK
set_option linter.all false
open Nat renaming reduceEqDiff → zE,reduceAdd → zA
namespace Go.Proofs.Tryz
open Go Go.Iv
set_option maxRecDepth 4000
open Classical in
noncomputable def eqB {α:Type}(a b:α):Bool:=decide (a=b)
def yZ1 {α:Type}{a b:α}:eqB a b=true↔a=b:=by simp[eqB]
def yQq {α:Type}{a b:α}:eqB a b=false↔a≠b:=by simp[eqB]
def Ma {v:Bool}{n:ByteArray}{us:List Tm}{l:List Tm}(h:Tm.mk v n us∈l):SizeOf.sizeOf us<SizeOf.sizeOf l:=by
 have:=lSm h;simp at this;omega
end Go.Proofs.Tryz
namespace Go.Proofs.Tryz
open Go Go.Iv
set_option maxRecDepth 4000
variable (gl:Nat->Option IV)
def Cs (c:UInt8)(st:ISt):ICall prog gl 185 [.raw (.int .u8 c.toNat)] st (λx st'=>x=(pM c:Bool)/\st'=st):=by
 refine iI func185 ?_;simp only[go_sem,reduceCtorEq];refine pJ (λh=>?_) (λh=>?_)
 ·have D:(48:Nat)<=c.toNat:=by simp at h;omega
  simp only[go_sem,zE,reduceCtorEq];exact c_ ⟨by congr 3;simp[pM,inB,D];omega,rfl⟩
 ·have D:¬ (48:Nat)<=c.toNat:=by simp at h;omega
  simp only[go_sem,zE];exact c_ ⟨by simp[pM,inB,D],rfl⟩
def Mb (c:UInt8)(st:ISt):ICall prog gl 208 [.raw (.int .u8 c.toNat)] st (λx st'=>x=(rD c:Bool)/\st'=st):=by
 refine iI func208 ?_;simp only[go_sem,reduceCtorEq];refine pJ (λh=>?_) (λh=>?_)
 ·have D:(97:Nat)<=c.toNat:=by simp at h;omega
  simp only[go_sem,zE,reduceCtorEq];exact c_ ⟨by congr 3;simp[rD,inB,D];omega,rfl⟩
 ·have D:¬ (97:Nat)<=c.toNat:=by simp at h;omega
  simp only[go_sem,zE];exact c_ ⟨by simp[rD,inB,D],rfl⟩
def Cu (c:UInt8)(st:ISt):ICall prog gl 182 [.raw (.int .u8 c.toNat)] st (λx st'=>x=(oG c:Bool)/\st'=st):=by
 refine iI func182 ?_;simp only[go_sem,reduceCtorEq];refine pJ (λh=>?_) (λh=>?_)
 ·have D:(65:Nat)<=c.toNat:=by simp at h;omega
  simp only[go_sem,zE,reduceCtorEq];exact c_ ⟨by congr 3;simp[oG,inB,D];omega,rfl⟩
 ·have D:¬ (65:Nat)<=c.toNat:=by simp at h;omega
  simp only[go_sem,zE];exact c_ ⟨by simp[oG,inB,D],rfl⟩
def Ke (c:UInt8)(st:ISt):ICall prog gl 184 [.raw (.int .u8 c.toNat)] st (λx st'=>x=(inB 117 122 c:Bool)/\st'=st):=by
 refine iI func184 ?_;simp only[go_sem,reduceCtorEq];refine pJ (λh=>?_) (λh=>?_)
 ·have D:(117:Nat)<=c.toNat:=by simp at h;omega
  simp only[go_sem,zE,reduceCtorEq];exact c_ ⟨by congr 3;simp[inB,D];omega,rfl⟩
 ·have D:¬ (117:Nat)<=c.toNat:=by simp at h;omega
  simp only[go_sem,zE];exact c_ ⟨by simp[inB,D],rfl⟩
def Kg (c:UInt8)(st:ISt):ICall prog gl 210 [.raw (.int .u8 c.toNat)] st (λx st'=>x=(inB 97 116 c:Bool)/\st'=st):=by
 refine iI func210 ?_;simp only[go_sem,reduceCtorEq];refine pJ (λh=>?_) (λh=>?_)
 ·have D:(97:Nat)<=c.toNat:=by simp at h;omega
  simp only[go_sem,zE,reduceCtorEq];exact c_ ⟨by congr 3;simp[inB,D];omega,rfl⟩
 ·have D:¬ (97:Nat)<=c.toNat:=by simp at h;omega
  simp only[go_sem,zE];exact c_ ⟨by simp[inB,D],rfl⟩
def Ct (c:UInt8)(st:ISt):ICall prog gl 183 [.raw (.int .u8 c.toNat)] st (λx st'=>x=(nO c:Bool)/\st'=st):=by
 refine iI func183 ?_;simp only[go_sem,zA,reduceCtorEq];refine (Mb gl c _).q ?_;cases h1:rD c
 ·simp only[go_sem,zE,zA,reduceCtorEq];refine (Cu gl c _).q ?_;cases h2:oG c
  ·simp only[go_sem,zE,zA,reduceCtorEq];refine (Cs gl c _).q ?_;simp only[go_sem,zE];exact c_ ⟨by simp[nO,h1,h2],rfl⟩
  ·simp only[go_sem,zE];exact c_ ⟨by simp[nO,h1,h2],rfl⟩
 ·simp only[go_sem,zE];exact c_ ⟨by simp[nO,h1],rfl⟩
