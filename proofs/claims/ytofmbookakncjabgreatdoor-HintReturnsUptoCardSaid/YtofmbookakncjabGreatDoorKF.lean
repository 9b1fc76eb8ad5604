/- Walks: lists of names; equality of terms -/
import Derived.Test.YtofmbookakncjabGreatDoorJJ
import Derived.Test.YtofmbookakncjabGreatDoorJK
set_option linter.all false
open Nat renaming reduceEqDiff → zE,reduceAdd → zA
namespace Go.Proofs.Tryz
open Go Go.Iv
set_option maxRecDepth 4000
open Classical in
noncomputable def eqB {α:Type}(a b:α):Bool:=decide (a=b)
def yZ2 {α:Type}{a b:α}:eqB a b=true↔a=b:=by simp[eqB]
def yQq {α:Type}{a b:α}:eqB a b=false↔a≠b:=by simp[eqB]
def NA {v:Bool}{n:ByteArray}{us:List Tm}{l:List Tm}(h:Tm.mk v n us∈l):SizeOf.sizeOf us<SizeOf.sizeOf l:=by
 have:=lSm h;simp at this;omega
end Go.Proofs.Tryz
namespace Go.Proofs.Tryz
open Go Go.Iv
set_option maxRecDepth 4000
variable (gl:Nat->Option IV)
def Ed (c:UInt8)(st:ISt):ICall prog gl 233 [.raw (.int .u8 c.toNat)] st (λx st'=>x=(qX c:Bool)/\st'=st):=by
 refine iI func233 ?_;simp only[go_sem,reduceCtorEq];refine qV (λh=>?_) (λh=>?_)
 ·have A:(48:Nat)<=c.toNat:=by simp at h;omega
  simp only[go_sem,zE,reduceCtorEq];exact dw ⟨by congr 3;simp[qX,inB,A];omega,rfl⟩
 ·have A:¬ (48:Nat)<=c.toNat:=by simp at h;omega
  simp only[go_sem,zE];exact dw ⟨by simp[qX,inB,A],rfl⟩
def NB (c:UInt8)(st:ISt):ICall prog gl 258 [.raw (.int .u8 c.toNat)] st (λx st'=>x=(t_ c:Bool)/\st'=st):=by
 refine iI func258 ?_;simp only[go_sem,reduceCtorEq];refine qV (λh=>?_) (λh=>?_)
 ·have A:(97:Nat)<=c.toNat:=by simp at h;omega
  simp only[go_sem,zE,reduceCtorEq];exact dw ⟨by congr 3;simp[t_,inB,A];omega,rfl⟩
 ·have A:¬ (97:Nat)<=c.toNat:=by simp at h;omega
  simp only[go_sem,zE];exact dw ⟨by simp[t_,inB,A],rfl⟩
def Ef (c:UInt8)(st:ISt):ICall prog gl 250 [.raw (.int .u8 c.toNat)] st (λx st'=>x=(pV c:Bool)/\st'=st):=by
 refine iI func250 ?_;simp only[go_sem,reduceCtorEq];refine qV (λh=>?_) (λh=>?_)
 ·have A:(65:Nat)<=c.toNat:=by simp at h;omega
  simp only[go_sem,zE,reduceCtorEq];exact dw ⟨by congr 3;simp[pV,inB,A];omega,rfl⟩
 ·have A:¬ (65:Nat)<=c.toNat:=by simp at h;omega
  simp only[go_sem,zE];exact dw ⟨by simp[pV,inB,A],rfl⟩
def LB (c:UInt8)(st:ISt):ICall prog gl 232 [.raw (.int .u8 c.toNat)] st (λx st'=>x=(inB 117 122 c:Bool)/\st'=st):=by
 refine iI func232 ?_;simp only[go_sem,reduceCtorEq];refine qV (λh=>?_) (λh=>?_)
 ·have A:(117:Nat)<=c.toNat:=by simp at h;omega
  simp only[go_sem,zE,reduceCtorEq];exact dw ⟨by congr 3;simp[inB,A];omega,rfl⟩
 ·have A:¬ (117:Nat)<=c.toNat:=by simp at h;omega
  simp only[go_sem,zE];exact dw ⟨by simp[inB,A],rfl⟩
def LD (c:UInt8)(st:ISt):ICall prog gl 235 [.raw (.int .u8 c.toNat)] st (λx st'=>x=(inB 97 116 c:Bool)/\st'=st):=by
 refine iI func235 ?_;simp only[go_sem,reduceCtorEq];refine qV (λh=>?_) (λh=>?_)
 ·have A:(97:Nat)<=c.toNat:=by simp at h;omega
  simp only[go_sem,zE,reduceCtorEq];exact dw ⟨by congr 3;simp[inB,A];omega,rfl⟩
 ·have A:¬ (97:Nat)<=c.toNat:=by simp at h;omega
  simp only[go_sem,zE];exact dw ⟨by simp[inB,A],rfl⟩
def Ee (c:UInt8)(st:ISt):ICall prog gl 236 [.raw (.int .u8 c.toNat)] st (λx st'=>x=(o_ c:Bool)/\st'=st):=by
 refine iI func236 ?_;simp only[go_sem,zA,reduceCtorEq];refine (NB gl c _).q ?_;cases h1:t_ c
 ·simp only[go_sem,zE,zA,reduceCtorEq];refine (Ef gl c _).q ?_;cases h2:pV c
  ·simp only[go_sem,zE,zA,reduceCtorEq];refine (Ed gl c _).q ?_;simp only[go_sem,zE];exact dw ⟨by simp[o_,h1,h2],rfl⟩
  ·simp only[go_sem,zE];exact dw ⟨by simp[o_,h1,h2],rfl⟩
 ·simp only[go_sem,zE];exact dw ⟨by simp[o_,h1],rfl⟩
