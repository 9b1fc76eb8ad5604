/- Walks: lists of names; equality of terms -/
import Derived.Test.YtjbhofcbleepiaaGreatDoorJJ
import Derived.Test.YtjbhofcbleepiaaGreatDoorJK
set_option linter.all false
namespace Go.Proofs.Tryz
open Go Go.Iv
set_option maxRecDepth 4000
open Classical in
noncomputable def hasB (l:List ByteArray) (s:ByteArray):Bool:=decide (s ∈ l)
theorem wGe (gl:Nat → Option IV) (t:Tag) (l:List ByteArray) (s:ByteArray) (ht:okEs t 1) (hl:l.length ≤ 140737488355328) (st:ISt) :
  ICall prog gl 212 [.sl t (strI l),.raw (.string s)] st (fun x st' => x = .raw (.bool (hasB l s)) ∧ st' = st):=by
 refine iI func212 rfl rfl (by kernel_rfl) ?_
 simp -implicitDefEqProofs -dsimp only [go_sem]
 refine LoopC.ctr l.length (fun k fr st' ds => s ∉ l.take k ∧ fr 0 = .iv (.sl t (strI l)) ∧ fr 1 = .iv (.raw (.string s)) ∧ fr 5 = .iv (.raw (.int .i64 k)) ∧ st' = st ∧ ds = []) ?_ ?_ ?_
 ·simp -implicitDefEqProofs -dsimp only [go_sem,List.take_zero,List.not_mem_nil,nFt]; rfl
 ·rintro k fr st' ds hlt ⟨hn,h0,h1,h5,rfl,rfl⟩
  obtain ⟨x,hx⟩:=yQ3 hlt
  simp -implicitDefEqProofs -dsimp only [go_sem,h0,h1,h5,yQi,lt_i hlt,yQ2 ht,iNn,yJ2 hx,yQa hlt (by omega)]
  intro _
  refine yZ6 (fun h => ?_) (fun h => ?_)
  ·have hm:s ∈ l:=by rw [← of_decide_eq_true h]; exact lMg hx
   simp -implicitDefEqProofs -dsimp only [go_sem,h0,h1,h5]
   exact yQ0 ⟨by simp [hasB,hm],rfl⟩
  ·simp -implicitDefEqProofs -dsimp only [go_sem,h0,h1,h5,yQa hlt (by omega)]
   rw [yQ5 hx]
   simp only [List.mem_append,List.mem_singleton,not_or]
   exact ⟨hn,fun he => of_decide_eq_false h he.symm⟩
 ·rintro fr st' ds ⟨hn,h0,h1,h5,rfl,rfl⟩
  simp -implicitDefEqProofs -dsimp only [go_sem,h0,h1,h5,yQi,yQn (nLi _)]
  intro _
  have hm:s ∉ l:=by rw [lTl] at hn; exact hn
  exact yQ0 ⟨by simp [hasB,hm],rfl⟩
end Go.Proofs.Tryz
namespace Go.Proofs.Tryz
open Go Go.Iv
set_option maxRecDepth 4000
open Classical in
noncomputable def eqB {α:Type} (a b:α):Bool:=decide (a = b)
theorem yQo {α:Type} {a b:α}:eqB a b = true ↔ a = b:=by simp [eqB]
theorem yQl {α:Type} {a b:α}:eqB a b = false ↔ a ≠ b:=by simp [eqB]
theorem xVz {v:Bool} {n:ByteArray} {us:List Tm} {l:List Tm} (h:Tm.mk v n us ∈ l):SizeOf.sizeOf us < SizeOf.sizeOf l:=by
 have:=lSm h
 simp at this; omega
end Go.Proofs.Tryz
namespace Go.Proofs.Tryz
open Go Go.Iv
set_option maxRecDepth 4000
variable (gl:Nat → Option IV)
theorem wQu (c:UInt8) (st:ISt):ICall prog gl 287 [.raw (.int .u8 c.toNat)] st (fun x st' => x = .raw (.bool (yKm c)) ∧ st' = st):=by
 refine iI func287 rfl rfl (by kernel_rfl) ?_
 simp -implicitDefEqProofs -dsimp only [go_sem]
 refine yJj (fun h => ?_) (fun h => ?_)
 ·have h':(48:Nat) ≤ c.toNat:=by simp at h; omega
  simp -implicitDefEqProofs -dsimp only [go_sem]
  exact yQ0 ⟨by congr 3; simp [yKm,inB,h']; omega,rfl⟩
 ·have h':¬ (48:Nat) ≤ c.toNat:=by simp at h; omega
  simp -implicitDefEqProofs -dsimp only [go_sem]
  exact yQ0 ⟨by simp [yKm,inB,h'],rfl⟩
theorem wWj (c:UInt8) (st:ISt):ICall prog gl 316 [.raw (.int .u8 c.toNat)] st (fun x st' => x = .raw (.bool (yWr c)) ∧ st' = st):=by
 refine iI func316 rfl rfl (by kernel_rfl) ?_
 simp -implicitDefEqProofs -dsimp only [go_sem]
 refine yJj (fun h => ?_) (fun h => ?_)
 ·have h':(97:Nat) ≤ c.toNat:=by simp at h; omega
  simp -implicitDefEqProofs -dsimp only [go_sem]
  exact yQ0 ⟨by congr 3; simp [yWr,inB,h']; omega,rfl⟩
 ·have h':¬ (97:Nat) ≤ c.toNat:=by simp at h; omega
  simp -implicitDefEqProofs -dsimp only [go_sem]
  exact yQ0 ⟨by simp [yWr,inB,h'],rfl⟩
theorem xZ0 (c:UInt8) (st:ISt):ICall prog gl 312 [.raw (.int .u8 c.toNat)] st (fun x st' => x = .raw (.bool (yXx c)) ∧ st' = st):=by
 refine iI func312 rfl rfl (by kernel_rfl) ?_
 simp -implicitDefEqProofs -dsimp only [go_sem]
 refine yJj (fun h => ?_) (fun h => ?_)
 ·have h':(65:Nat) ≤ c.toNat:=by simp at h; omega
  simp -implicitDefEqProofs -dsimp only [go_sem]
  exact yQ0 ⟨by congr 3; simp [yXx,inB,h']; omega,rfl⟩
 ·have h':¬ (65:Nat) ≤ c.toNat:=by simp at h; omega
  simp -implicitDefEqProofs -dsimp only [go_sem]
  exact yQ0 ⟨by simp [yXx,inB,h'],rfl⟩
theorem wUv (c:UInt8) (st:ISt):ICall prog gl 286 [.raw (.int .u8 c.toNat)] st (fun x st' => x = .raw (.bool (inB 117 122 c)) ∧ st' = st):=by
 refine iI func286 rfl rfl (by kernel_rfl) ?_
 simp -implicitDefEqProofs -dsimp only [go_sem]
 refine yJj (fun h => ?_) (fun h => ?_)
 ·have h':(117:Nat) ≤ c.toNat:=by simp at h; omega
  simp -implicitDefEqProofs -dsimp only [go_sem]
  exact yQ0 ⟨by congr 3; simp [inB,h']; omega,rfl⟩
 ·have h':¬ (117:Nat) ≤ c.toNat:=by simp at h; omega
  simp -implicitDefEqProofs -dsimp only [go_sem]
  exact yQ0 ⟨by simp [inB,h'],rfl⟩
theorem vZb (c:UInt8) (st:ISt):ICall prog gl 289 [.raw (.int .u8 c.toNat)] st (fun x st' => x = .raw (.bool (inB 97 116 c)) ∧ st' = st):=by
 refine iI func289 rfl rfl (by kernel_rfl) ?_
 simp -implicitDefEqProofs -dsimp only [go_sem]
 refine yJj (fun h => ?_) (fun h => ?_)
 ·have h':(97:Nat) ≤ c.toNat:=by simp at h; omega
  simp -implicitDefEqProofs -dsimp only [go_sem]
  exact yQ0 ⟨by congr 3; simp [inB,h']; omega,rfl⟩
 ·have h':¬ (97:Nat) ≤ c.toNat:=by simp at h; omega
  simp -implicitDefEqProofs -dsimp only [go_sem]
  exact yQ0 ⟨by simp [inB,h'],rfl⟩
theorem wZ3 (c:UInt8) (st:ISt):ICall prog gl 290 [.raw (.int .u8 c.toNat)] st (fun x st' => x = .raw (.bool (yVw c)) ∧ st' = st):=by
 refine iI func290 rfl rfl (by kernel_rfl) ?_
 simp -implicitDefEqProofs -dsimp only [go_sem]
 refine (wWj gl c _).mono ?_
 rintro _ _ ⟨rfl,rfl⟩
 cases h1:yWr c
 ·simp -implicitDefEqProofs -dsimp only [go_sem]
  refine (xZ0 gl c _).mono ?_
  rintro _ _ ⟨rfl,rfl⟩
  cases h2:yXx c
  ·simp -implicitDefEqProofs -dsimp only [go_sem]
   refine (wQu gl c _).mono ?_
   rintro _ _ ⟨rfl,rfl⟩
   simp -implicitDefEqProofs -dsimp only [go_sem]
   exact yQ0 ⟨by simp [yVw,h1,h2],rfl⟩
  ·simp -implicitDefEqProofs -dsimp only [go_sem]
   exact yQ0 ⟨by simp [yVw,h1,h2],rfl⟩
 ·simp -implicitDefEqProofs -dsimp only [go_sem]
  exact yQ0 ⟨by simp [yVw,h1],rfl⟩
end Go.Proofs.Tryz
