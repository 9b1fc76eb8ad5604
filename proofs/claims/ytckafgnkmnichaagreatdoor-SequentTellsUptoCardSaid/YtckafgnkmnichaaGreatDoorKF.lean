/- Walks: lists of names; equality of terms -/
import Derived.Test.YtckafgnkmnichaaGreatDoorJJ
import Derived.Test.YtckafgnkmnichaaGreatDoorJK
set_option linter.all false
namespace Go.Proofs.Tryz
open Go Go.Iv
set_option maxRecDepth 4000
open Classical in
noncomputable def hasB (l:List ByteArray) (s:ByteArray):Bool:=decide (s ∈ l)
theorem xYt (gl:Nat → Option IV) (t:Tag) (l:List ByteArray) (s:ByteArray) (ht:okEs t 1) (hl:l.length ≤ 140737488355328) (st:ISt) :
  ICall prog gl 269 [.sl t (strI l),.raw (.string s)] st (fun x st' => x = .raw (.bool (hasB l s)) ∧ st' = st):=by
 refine iI func269 rfl rfl (by kernel_rfl) ?_
 simp -implicitDefEqProofs -dsimp only [go_sem]
 refine LoopC.ctr l.length (fun k fr st' ds => s ∉ l.take k ∧ fr 0 = .iv (.sl t (strI l)) ∧ fr 1 = .iv (.raw (.string s)) ∧ fr 5 = .iv (.raw (.int .i64 k)) ∧ st' = st ∧ ds = []) ?_ ?_ ?_
 ·simp -implicitDefEqProofs -dsimp only [go_sem,List.take_zero,List.not_mem_nil,nFt]; rfl
 ·rintro k fr st' ds hlt ⟨hn,h0,h1,h5,rfl,rfl⟩
  obtain ⟨x,hx⟩:=yQ3 hlt
  simp -implicitDefEqProofs -dsimp only [go_sem,h0,h1,h5,yQq,lt_i hlt,yQ2 ht,iNn,yK0 hx,yQ9 hlt (by omega)]
  intro _
  refine yZ8 (fun h => ?_) (fun h => ?_)
  ·have hm:s ∈ l:=by rw [← of_decide_eq_true h]; exact lMg hx
   simp -implicitDefEqProofs -dsimp only [go_sem,h0,h1,h5]
   exact yQ0 ⟨by simp [hasB,hm],rfl⟩
  ·simp -implicitDefEqProofs -dsimp only [go_sem,h0,h1,h5,yQ9 hlt (by omega)]
   rw [yQ4 hx]
   simp only [List.mem_append,List.mem_singleton,not_or]
   exact ⟨hn,fun he => of_decide_eq_false h he.symm⟩
 ·rintro fr st' ds ⟨hn,h0,h1,h5,rfl,rfl⟩
  simp -implicitDefEqProofs -dsimp only [go_sem,h0,h1,h5,yQq,yQm (nLi _)]
  intro _
  have hm:s ∉ l:=by rw [lTl] at hn; exact hn
  exact yQ0 ⟨by simp [hasB,hm],rfl⟩
end Go.Proofs.Tryz
namespace Go.Proofs.Tryz
open Go Go.Iv
set_option maxRecDepth 4000
open Classical in
noncomputable def eqB {α:Type} (a b:α):Bool:=decide (a = b)
theorem yQp {α:Type} {a b:α}:eqB a b = true ↔ a = b:=by simp [eqB]
theorem yQj {α:Type} {a b:α}:eqB a b = false ↔ a ≠ b:=by simp [eqB]
theorem xW8 {v:Bool} {n:ByteArray} {us:List Tm} {l:List Tm} (h:Tm.mk v n us ∈ l):SizeOf.sizeOf us < SizeOf.sizeOf l:=by
 have:=lSm h
 simp at this; omega
end Go.Proofs.Tryz
namespace Go.Proofs.Tryz
open Go Go.Iv
set_option maxRecDepth 4000
variable (gl:Nat → Option IV)
theorem wZ9 (c:UInt8) (st:ISt):ICall prog gl 298 [.raw (.int .u8 c.toNat)] st (fun x st' => x = .raw (.bool (yV0 c)) ∧ st' = st):=by
 refine iI func298 rfl rfl (by kernel_rfl) ?_
 simp -implicitDefEqProofs -dsimp only [go_sem]
 refine yJw (fun h => ?_) (fun h => ?_)
 ·have h':(48:Nat) ≤ c.toNat:=by simp at h; omega
  simp -implicitDefEqProofs -dsimp only [go_sem]
  exact yQ0 ⟨by congr 3; simp [yV0,inB,h']; omega,rfl⟩
 ·have h':¬ (48:Nat) ≤ c.toNat:=by simp at h; omega
  simp -implicitDefEqProofs -dsimp only [go_sem]
  exact yQ0 ⟨by simp [yV0,inB,h'],rfl⟩
theorem wWu (c:UInt8) (st:ISt):ICall prog gl 327 [.raw (.int .u8 c.toNat)] st (fun x st' => x = .raw (.bool (yY0 c)) ∧ st' = st):=by
 refine iI func327 rfl rfl (by kernel_rfl) ?_
 simp -implicitDefEqProofs -dsimp only [go_sem]
 refine yJw (fun h => ?_) (fun h => ?_)
 ·have h':(97:Nat) ≤ c.toNat:=by simp at h; omega
  simp -implicitDefEqProofs -dsimp only [go_sem]
  exact yQ0 ⟨by congr 3; simp [yY0,inB,h']; omega,rfl⟩
 ·have h':¬ (97:Nat) ≤ c.toNat:=by simp at h; omega
  simp -implicitDefEqProofs -dsimp only [go_sem]
  exact yQ0 ⟨by simp [yY0,inB,h'],rfl⟩
theorem xQv (c:UInt8) (st:ISt):ICall prog gl 295 [.raw (.int .u8 c.toNat)] st (fun x st' => x = .raw (.bool (yJd c)) ∧ st' = st):=by
 refine iI func295 rfl rfl (by kernel_rfl) ?_
 simp -implicitDefEqProofs -dsimp only [go_sem]
 refine yJw (fun h => ?_) (fun h => ?_)
 ·have h':(65:Nat) ≤ c.toNat:=by simp at h; omega
  simp -implicitDefEqProofs -dsimp only [go_sem]
  exact yQ0 ⟨by congr 3; simp [yJd,inB,h']; omega,rfl⟩
 ·have h':¬ (65:Nat) ≤ c.toNat:=by simp at h; omega
  simp -implicitDefEqProofs -dsimp only [go_sem]
  exact yQ0 ⟨by simp [yJd,inB,h'],rfl⟩
theorem vQ6 (c:UInt8) (st:ISt):ICall prog gl 297 [.raw (.int .u8 c.toNat)] st (fun x st' => x = .raw (.bool (inB 117 122 c)) ∧ st' = st):=by
 refine iI func297 rfl rfl (by kernel_rfl) ?_
 simp -implicitDefEqProofs -dsimp only [go_sem]
 refine yJw (fun h => ?_) (fun h => ?_)
 ·have h':(117:Nat) ≤ c.toNat:=by simp at h; omega
  simp -implicitDefEqProofs -dsimp only [go_sem]
  exact yQ0 ⟨by congr 3; simp [inB,h']; omega,rfl⟩
 ·have h':¬ (117:Nat) ≤ c.toNat:=by simp at h; omega
  simp -implicitDefEqProofs -dsimp only [go_sem]
  exact yQ0 ⟨by simp [inB,h'],rfl⟩
theorem vZk (c:UInt8) (st:ISt):ICall prog gl 310 [.raw (.int .u8 c.toNat)] st (fun x st' => x = .raw (.bool (inB 97 116 c)) ∧ st' = st):=by
 refine iI func310 rfl rfl (by kernel_rfl) ?_
 simp -implicitDefEqProofs -dsimp only [go_sem]
 refine yJw (fun h => ?_) (fun h => ?_)
 ·have h':(97:Nat) ≤ c.toNat:=by simp at h; omega
  simp -implicitDefEqProofs -dsimp only [go_sem]
  exact yQ0 ⟨by congr 3; simp [inB,h']; omega,rfl⟩
 ·have h':¬ (97:Nat) ≤ c.toNat:=by simp at h; omega
  simp -implicitDefEqProofs -dsimp only [go_sem]
  exact yQ0 ⟨by simp [inB,h'],rfl⟩
theorem wZi (c:UInt8) (st:ISt):ICall prog gl 296 [.raw (.int .u8 c.toNat)] st (fun x st' => x = .raw (.bool (yW7 c)) ∧ st' = st):=by
 refine iI func296 rfl rfl (by kernel_rfl) ?_
 simp -implicitDefEqProofs -dsimp only [go_sem]
 refine (wWu gl c _).mono ?_
 rintro _ _ ⟨rfl,rfl⟩
 cases h1:yY0 c
 ·simp -implicitDefEqProofs -dsimp only [go_sem]
  refine (xQv gl c _).mono ?_
  rintro _ _ ⟨rfl,rfl⟩
  cases h2:yJd c
  ·simp -implicitDefEqProofs -dsimp only [go_sem]
   refine (wZ9 gl c _).mono ?_
   rintro _ _ ⟨rfl,rfl⟩
   simp -implicitDefEqProofs -dsimp only [go_sem]
   exact yQ0 ⟨by simp [yW7,h1,h2],rfl⟩
  ·simp -implicitDefEqProofs -dsimp only [go_sem]
   exact yQ0 ⟨by simp [yW7,h1,h2],rfl⟩
 ·simp -implicitDefEqProofs -dsimp only [go_sem]
  exact yQ0 ⟨by simp [yW7,h1],rfl⟩
end Go.Proofs.Tryz
