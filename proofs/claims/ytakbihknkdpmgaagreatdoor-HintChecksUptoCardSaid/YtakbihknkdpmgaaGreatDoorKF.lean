/- Walks: lists of names; equality of terms -/
import Derived.Test.YtakbihknkdpmgaaGreatDoorJJ
import Derived.Test.YtakbihknkdpmgaaGreatDoorJK
set_option linter.all false
open Nat renaming reduceEqDiff → zE,reduceAdd → zA
namespace Go.Proofs.Tryz
open Go Go.Iv
set_option maxRecDepth 4000
open Classical in
noncomputable def eqB {α:Type}(a b:α):Bool:=decide (a=b)
def yQx {α:Type}{a b:α}:eqB a b=true↔a=b:=by simp[eqB]
def yQo {α:Type}{a b:α}:eqB a b=false↔a≠b:=by simp[eqB]
def LZ {v:Bool}{n:ByteArray}{us:List Tm}{l:List Tm}(h:Tm.mk v n us∈l):SizeOf.sizeOf us<SizeOf.sizeOf l:=by
 have:=lSm h;simp at this;omega
end Go.Proofs.Tryz
namespace Go.Proofs.Tryz
open Go Go.Iv
set_option maxRecDepth 4000
variable (gl:Nat->Option IV)
def Cc (c:UInt8)(st:ISt):ICall prog gl 267 [.raw (.int .u8 c.toNat)] st (λx st'=>x=(kW c:Bool)/\st'=st):=by
 refine iI func267 ?_;simp only[go_sem,reduceCtorEq];refine pE (λh=>?_) (λh=>?_)
 ·have A:(48:Nat)<=c.toNat:=by simp at h;omega
  simp only[go_sem,zE,reduceCtorEq];exact c_ ⟨by congr 3;simp[kW,inB,A];omega,rfl⟩
 ·have A:¬ (48:Nat)<=c.toNat:=by simp at h;omega
  simp only[go_sem,zE];exact c_ ⟨by simp[kW,inB,A],rfl⟩
def L1 (c:UInt8)(st:ISt):ICall prog gl 304 [.raw (.int .u8 c.toNat)] st (λx st'=>x=(mK c:Bool)/\st'=st):=by
 refine iI func304 ?_;simp only[go_sem,reduceCtorEq];refine pE (λh=>?_) (λh=>?_)
 ·have A:(97:Nat)<=c.toNat:=by simp at h;omega
  simp only[go_sem,zE,reduceCtorEq];exact c_ ⟨by congr 3;simp[mK,inB,A];omega,rfl⟩
 ·have A:¬ (97:Nat)<=c.toNat:=by simp at h;omega
  simp only[go_sem,zE];exact c_ ⟨by simp[mK,inB,A],rfl⟩
def Ce (c:UInt8)(st:ISt):ICall prog gl 284 [.raw (.int .u8 c.toNat)] st (λx st'=>x=(lJ c:Bool)/\st'=st):=by
 refine iI func284 ?_;simp only[go_sem,reduceCtorEq];refine pE (λh=>?_) (λh=>?_)
 ·have A:(65:Nat)<=c.toNat:=by simp at h;omega
  simp only[go_sem,zE,reduceCtorEq];exact c_ ⟨by congr 3;simp[lJ,inB,A];omega,rfl⟩
 ·have A:¬ (65:Nat)<=c.toNat:=by simp at h;omega
  simp only[go_sem,zE];exact c_ ⟨by simp[lJ,inB,A],rfl⟩
def J4 (c:UInt8)(st:ISt):ICall prog gl 266 [.raw (.int .u8 c.toNat)] st (λx st'=>x=(inB 117 122 c:Bool)/\st'=st):=by
 refine iI func266 ?_;simp only[go_sem,reduceCtorEq];refine pE (λh=>?_) (λh=>?_)
 ·have A:(117:Nat)<=c.toNat:=by simp at h;omega
  simp only[go_sem,zE,reduceCtorEq];exact c_ ⟨by congr 3;simp[inB,A];omega,rfl⟩
 ·have A:¬ (117:Nat)<=c.toNat:=by simp at h;omega
  simp only[go_sem,zE];exact c_ ⟨by simp[inB,A],rfl⟩
def J6 (c:UInt8)(st:ISt):ICall prog gl 269 [.raw (.int .u8 c.toNat)] st (λx st'=>x=(inB 97 116 c:Bool)/\st'=st):=by
 refine iI func269 ?_;simp only[go_sem,reduceCtorEq];refine pE (λh=>?_) (λh=>?_)
 ·have A:(97:Nat)<=c.toNat:=by simp at h;omega
  simp only[go_sem,zE,reduceCtorEq];exact c_ ⟨by congr 3;simp[inB,A];omega,rfl⟩
 ·have A:¬ (97:Nat)<=c.toNat:=by simp at h;omega
  simp only[go_sem,zE];exact c_ ⟨by simp[inB,A],rfl⟩
def Cd (c:UInt8)(st:ISt):ICall prog gl 270 [.raw (.int .u8 c.toNat)] st (λx st'=>x=(ma c:Bool)/\st'=st):=by
 refine iI func270 ?_;simp only[go_sem,zA,reduceCtorEq];refine (L1 gl c _).q ?_;cases h1:mK c
 ·simp only[go_sem,zE,zA,reduceCtorEq];refine (Ce gl c _).q ?_;cases h2:lJ c
  ·simp only[go_sem,zE,zA,reduceCtorEq];refine (Cc gl c _).q ?_;simp only[go_sem,zE];exact c_ ⟨by simp[ma,h1,h2],rfl⟩
  ·simp only[go_sem,zE];exact c_ ⟨by simp[ma,h1,h2],rfl⟩
 ·simp only[go_sem,zE];exact c_ ⟨by simp[ma,h1],rfl⟩
