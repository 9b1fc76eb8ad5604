/-  -/
import Derived.Test.YtebjhmlmdjnkgaaGreatDoorJK
import Derived.Test.YtebjhmlmdjnkgaaGreatDoorJJ
set_option linter.all false
open Nat renaming reduceEqDiff → zE,reduceAdd → zA
namespace Go.Proofs.Tryz
open Go Go.Iv
set_option maxRecDepth 4000
open Classical in
noncomputable def eqB {α:Type}(a b:α):Bool:=decide (a=b)
theorem yZ2 {α:Type}{a b:α}:eqB a b=true↔a=b:=by simp[eqB]
theorem yZf {α:Type}{a b:α}:eqB a b=false↔a≠b:=by simp[eqB]
end Go.Proofs.Tryz
namespace Go.Proofs.Tryz
open Go Go.Iv
set_option maxRecDepth 4000
variable (gl:Nat->Option IV)
theorem vQd (c:UInt8)(st:ISt):ICall prog gl 278 [.raw (.int .u8 c.toNat)] st (λx st'=>x=.raw (.bool (yVs c))/\st'=st):=by
 refine iI func278 ?_;simp only[go_sem,reduceCtorEq];refine yVk (λh=>?_) (λh=>?_)
 ·have h':(48:Nat)<=c.toNat:=by simp at h;omega
  simp only[go_sem,zE,reduceCtorEq];exact yQ0 ⟨by congr 3;simp[yVs,inB,h'];omega,rfl⟩
 ·have h':¬ (48:Nat)<=c.toNat:=by simp at h;omega
  simp only[go_sem,zE];exact yQ0 ⟨by simp[yVs,inB,h'],rfl⟩
theorem wGa (c:UInt8)(st:ISt):ICall prog gl 318 [.raw (.int .u8 c.toNat)] st (λx st'=>x=.raw (.bool (yWo c))/\st'=st):=by
 refine iI func318 ?_;simp only[go_sem,reduceCtorEq];refine yVk (λh=>?_) (λh=>?_)
 ·have h':(97:Nat)<=c.toNat:=by simp at h;omega
  simp only[go_sem,zE,reduceCtorEq];exact yQ0 ⟨by congr 3;simp[yWo,inB,h'];omega,rfl⟩
 ·have h':¬ (97:Nat)<=c.toNat:=by simp at h;omega
  simp only[go_sem,zE];exact yQ0 ⟨by simp[yWo,inB,h'],rfl⟩
theorem xQc (c:UInt8)(st:ISt):ICall prog gl 293 [.raw (.int .u8 c.toNat)] st (λx st'=>x=.raw (.bool (yJ2 c))/\st'=st):=by
 refine iI func293 ?_;simp only[go_sem,reduceCtorEq];refine yVk (λh=>?_) (λh=>?_)
 ·have h':(65:Nat)<=c.toNat:=by simp at h;omega
  simp only[go_sem,zE,reduceCtorEq];exact yQ0 ⟨by congr 3;simp[yJ2,inB,h'];omega,rfl⟩
 ·have h':¬ (65:Nat)<=c.toNat:=by simp at h;omega
  simp only[go_sem,zE];exact yQ0 ⟨by simp[yJ2,inB,h'],rfl⟩
theorem vQt (c:UInt8)(st:ISt):ICall prog gl 281 [.raw (.int .u8 c.toNat)] st (λx st'=>x=.raw (.bool (yWq c))/\st'=st):=by
 refine iI func281 ?_;simp only[go_sem,zA,reduceCtorEq];refine (wGa gl c _).mono ?_;rintro _ _ ⟨rfl,rfl⟩;cases h1:yWo c
 ·simp only[go_sem,zE,zA,reduceCtorEq];refine (xQc gl c _).mono ?_;rintro _ _ ⟨rfl,rfl⟩;cases h2:yJ2 c
  ·simp only[go_sem,zE,zA,reduceCtorEq];refine (vQd gl c _).mono ?_;rintro _ _ ⟨rfl,rfl⟩;simp only[go_sem,zE];exact yQ0 ⟨by simp[yWq,h1,h2],rfl⟩
  ·simp only[go_sem,zE];exact yQ0 ⟨by simp[yWq,h1,h2],rfl⟩
 ·simp only[go_sem,zE];exact yQ0 ⟨by simp[yWq,h1],rfl⟩
