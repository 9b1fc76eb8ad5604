/- Walks: lists of names; equality of terms -/
import Derived.Test.YtjbhofcbleepiaaGreatDoorJJ
import Derived.Test.YtjbhofcbleepiaaGreatDoorJK
set_option linter.all false
namespace Go.Proofs.Tryz
open Go Go.Iv
set_option maxRecDepth 4000
open Classical in
noncomputable def hasB (l:List ByteArray)(s:ByteArray):Bool:=decide (s∈l)
theorem xU7 (gl:Nat→Option IV)(t:Tag)(l:List ByteArray)(s:ByteArray)(ht:okEs t 1)(hl:l.length≤140737488355328)(st:ISt) :
  ICall prog gl 212 [.sl t (strI l),.raw (.string s)] st (fun x st'=>x=.raw (.bool (hasB l s))∧st'=st):=by
 refine iI func212 rfl rfl (by kernel_rfl) ?_
 simp(config:=zzC)only[go_sem]
 refine LoopC.ctr l.length (fun k fr st' ds=>s ∉ l.take k∧fr 0=.iv (.sl t (strI l))∧fr 1=.iv (.raw (.string s))∧fr 5=.iv (.raw (.int .i64 k))∧st'=st∧ds=[]) ?_ ?_ ?_
 ·simp(config:=zzC)only[go_sem,List.take_zero,List.not_mem_nil,nFt]; rfl
 ·rintro k fr st' ds hlt ⟨hn,h0,h1,h5,rfl,rfl⟩
  obtain⟨x,hx⟩:=yQ3 hlt
  simp(config:=zzC)only[go_sem,h0,h1,h5,yQp,lt_i hlt,yQ2 ht,iNn,yJx hx,yQa hlt (by omega)]
  intro _
  refine yZ7 (fun h=>?_) (fun h=>?_)
  ·have hm:s∈l:=by rw[← of_decide_eq_true h]; exact lMg hx
   simp(config:=zzC)only[go_sem,h0,h1,h5]
   exact yQ0 ⟨by simp[hasB,hm],rfl⟩
  ·simp(config:=zzC)only[go_sem,h0,h1,h5,yQa hlt (by omega)]
   rw[yQ4 hx]
   simp only[List.mem_append,List.mem_singleton,not_or]
   exact⟨hn,fun he=>of_decide_eq_false h he.symm⟩
 ·rintro fr st' ds ⟨hn,h0,h1,h5,rfl,rfl⟩
  simp(config:=zzC)only[go_sem,h0,h1,h5,yQp,yQm (nLi _)]
  intro _
  have hm:s ∉ l:=by rw[lTl] at hn; exact hn
  exact yQ0 ⟨by simp[hasB,hm],rfl⟩
end Go.Proofs.Tryz
namespace Go.Proofs.Tryz
open Go Go.Iv
set_option maxRecDepth 4000
open Classical in
noncomputable def eqB {α:Type}(a b:α):Bool:=decide (a=b)
theorem yQn {α:Type}{a b:α}:eqB a b=true↔a=b:=by simp[eqB]
theorem yQj {α:Type}{a b:α}:eqB a b=false↔a≠b:=by simp[eqB]
theorem xYm {v:Bool}{n:ByteArray}{us:List Tm}{l:List Tm}(h:Tm.mk v n us∈l):SizeOf.sizeOf us<SizeOf.sizeOf l:=by
 have:=lSm h
 simp at this; omega
end Go.Proofs.Tryz
namespace Go.Proofs.Tryz
open Go Go.Iv
set_option maxRecDepth 4000
variable (gl:Nat→Option IV)
theorem wXl (c:UInt8)(st:ISt):ICall prog gl 287 [.raw (.int .u8 c.toNat)] st (fun x st'=>x=.raw (.bool (yKz c))∧st'=st):=by
 refine iI func287 rfl rfl (by kernel_rfl) ?_
 simp(config:=zzC)only[go_sem]
 refine yJt (fun h=>?_) (fun h=>?_)
 ·have h':(48:Nat)≤c.toNat:=by simp at h; omega
  simp(config:=zzC)only[go_sem]
  exact yQ0 ⟨by congr 3; simp[yKz,inB,h']; omega,rfl⟩
 ·have h':¬ (48:Nat)≤c.toNat:=by simp at h; omega
  simp(config:=zzC)only[go_sem]
  exact yQ0 ⟨by simp[yKz,inB,h'],rfl⟩
theorem wGn (c:UInt8)(st:ISt):ICall prog gl 316 [.raw (.int .u8 c.toNat)] st (fun x st'=>x=.raw (.bool (yY9 c))∧st'=st):=by
 refine iI func316 rfl rfl (by kernel_rfl) ?_
 simp(config:=zzC)only[go_sem]
 refine yJt (fun h=>?_) (fun h=>?_)
 ·have h':(97:Nat)≤c.toNat:=by simp at h; omega
  simp(config:=zzC)only[go_sem]
  exact yQ0 ⟨by congr 3; simp[yY9,inB,h']; omega,rfl⟩
 ·have h':¬ (97:Nat)≤c.toNat:=by simp at h; omega
  simp(config:=zzC)only[go_sem]
  exact yQ0 ⟨by simp[yY9,inB,h'],rfl⟩
theorem xXa (c:UInt8)(st:ISt):ICall prog gl 312 [.raw (.int .u8 c.toNat)] st (fun x st'=>x=.raw (.bool (yJb c))∧st'=st):=by
 refine iI func312 rfl rfl (by kernel_rfl) ?_
 simp(config:=zzC)only[go_sem]
 refine yJt (fun h=>?_) (fun h=>?_)
 ·have h':(65:Nat)≤c.toNat:=by simp at h; omega
  simp(config:=zzC)only[go_sem]
  exact yQ0 ⟨by congr 3; simp[yJb,inB,h']; omega,rfl⟩
 ·have h':¬ (65:Nat)≤c.toNat:=by simp at h; omega
  simp(config:=zzC)only[go_sem]
  exact yQ0 ⟨by simp[yJb,inB,h'],rfl⟩
theorem vX3 (c:UInt8)(st:ISt):ICall prog gl 286 [.raw (.int .u8 c.toNat)] st (fun x st'=>x=.raw (.bool (inB 117 122 c))∧st'=st):=by
 refine iI func286 rfl rfl (by kernel_rfl) ?_
 simp(config:=zzC)only[go_sem]
 refine yJt (fun h=>?_) (fun h=>?_)
 ·have h':(117:Nat)≤c.toNat:=by simp at h; omega
  simp(config:=zzC)only[go_sem]
  exact yQ0 ⟨by congr 3; simp[inB,h']; omega,rfl⟩
 ·have h':¬ (117:Nat)≤c.toNat:=by simp at h; omega
  simp(config:=zzC)only[go_sem]
  exact yQ0 ⟨by simp[inB,h'],rfl⟩
theorem vJm (c:UInt8)(st:ISt):ICall prog gl 289 [.raw (.int .u8 c.toNat)] st (fun x st'=>x=.raw (.bool (inB 97 116 c))∧st'=st):=by
 refine iI func289 rfl rfl (by kernel_rfl) ?_
 simp(config:=zzC)only[go_sem]
 refine yJt (fun h=>?_) (fun h=>?_)
 ·have h':(97:Nat)≤c.toNat:=by simp at h; omega
  simp(config:=zzC)only[go_sem]
  exact yQ0 ⟨by congr 3; simp[inB,h']; omega,rfl⟩
 ·have h':¬ (97:Nat)≤c.toNat:=by simp at h; omega
  simp(config:=zzC)only[go_sem]
  exact yQ0 ⟨by simp[inB,h'],rfl⟩
theorem wXx (c:UInt8)(st:ISt):ICall prog gl 290 [.raw (.int .u8 c.toNat)] st (fun x st'=>x=.raw (.bool (yW8 c))∧st'=st):=by
 refine iI func290 rfl rfl (by kernel_rfl) ?_
 simp(config:=zzC)only[go_sem]
 refine (wGn gl c _).mono ?_
 rintro _ _ ⟨rfl,rfl⟩
 cases h1:yY9 c
 ·simp(config:=zzC)only[go_sem]
  refine (xXa gl c _).mono ?_
  rintro _ _ ⟨rfl,rfl⟩
  cases h2:yJb c
  ·simp(config:=zzC)only[go_sem]
   refine (wXl gl c _).mono ?_
   rintro _ _ ⟨rfl,rfl⟩
   simp(config:=zzC)only[go_sem]
   exact yQ0 ⟨by simp[yW8,h1,h2],rfl⟩
  ·simp(config:=zzC)only[go_sem]
   exact yQ0 ⟨by simp[yW8,h1,h2],rfl⟩
 ·simp(config:=zzC)only[go_sem]
  exact yQ0 ⟨by simp[yW8,h1],rfl⟩
end Go.Proofs.Tryz
