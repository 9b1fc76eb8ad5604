/- Results that are owned. -/
import Derived.Test.YtknaeibenggbmaaGreatDoorKV
import Derived.Test.YtknaeibenggbmaaGreatDoorKB
import Derived.Test.YtknaeibenggbmaaGreatDoorJN
set_option linter.all false
namespace Go.Proofs.Tryz
open Go Go.Iv
set_option maxRecDepth 4000
variable (gl : Nat → Option IV)

/-! ### Results that are owned -/

def noBx (st : ISt) : Prop := ∀ b cs, st b ≠ some (.box cs)
theorem noBx.raw {st : ISt} (h : noBx st) : rawSt st := fun b cs hb => absurd hb (h b cs)
def agedG : Prop := ∀ g x, gl g = some x → age x = x
def OwnF (st st' : ISt) (g : Fm) (z : IV) : Prop := subSt st st' ∧ flatSt st' ∧ rawSt st' ∧ (∃ zi, IsFm g zi ∧ OI st' z zi) ∧
  ∃ op n a b d e, z = .agg [.raw (.int .u8 op), .raw (.string n), .raw a, .raw b] ∧ IV.one (.raw a) = true ∧ IV.one (.raw b) = true ∧ WT d st' (.raw a) ∧ WF e st' (.raw b)
variable {gl}
theorem own_pair {st : ISt} {y zi : IV} {v : Value} (h : OI st y (.tup [zi, .raw v])) (hy : rawY y) : ∃ z, y = .tup [z, .raw v] ∧ OI st z zi ∧ rawY z := by
  cases h with
  | refl =>
    simp only [rawY] at hy
    exact ⟨zi, rfl, .refl _, rawYs_mem hy (by simp)⟩
  | tup rs _ hl h =>
    match rs, hl with
    | [a, b], _ =>
      have e1 := (h 1 _ _ rfl rfl).raw_eq
      subst e1
      simp only [rawY] at hy
      exact ⟨a, rfl, h 0 _ _ rfl rfl, rawYs_mem hy (by simp)⟩
theorem own_FED {f : FuncId} {args : List IV} {st : ISt} {g : Fm} {e : Nat} (hnb : noBx st) (hfl : flatSt st) (hgl : agedG gl) (h : ICall prog gl f (ages args) st (FED g e st)) :
    ICall prog gl f args st (fun y st' => ∃ z, y = .tup [z, .raw (.int .i64 e)] ∧ OwnF st st' g z) := by
  refine (ICall.own (K := fun r => ∃ y, r = .tup [y, .raw (.int .i64 e)] ∧ IsFm g y) hfl hgl (h.mono ?_)).mono ?_
  · rintro r st' ⟨y, rfl, hy, rfl⟩
    exact ⟨rfl, ⟨hy.2, trivial, trivial⟩, y, rfl, hy.1⟩
  · rintro y st' ⟨h1, h2, h3, x, ⟨zi, rfl, hz⟩, ho, hy⟩
    obtain ⟨z, rfl, hoz, hyz⟩ := own_pair ho hy
    exact ⟨z, rfl, h1, h2, h3 hnb.raw, ⟨zi, hz, hoz⟩, own_form (h3 hnb.raw) hz hoz hyz⟩
theorem Same_own {st : ISt} {g f : Fm} {z zi y : IV} (hf : flatSt st) (hz : IsFm g zi) (ho : OI st z zi) (hy : IsFm f y) :
    ICall prog gl 26 [z, y] st (fun r st' => st' = st ∧ r = .raw (.bool (eqB g f))) :=
  ICall.borrow hf ⟨_, _, rfl, .inr ⟨zi, ho, rfl⟩, _, _, rfl, .inl rfl, rfl⟩ ((Same_c gl g f _ y hz.aged hy (noBox st)).mono fun r st' h => ⟨h.2, by rw [h.1]; trivial, h.1⟩)
theorem sub_ov {st st' st'' : ISt} (hnb : noBx st) (h : subSt st st') (ho : Ov st' st'') : subSt st st'' := fun b o hb => by
  have h1 := h b o hb
  rw [ho.dom b fun cs hc => by rw [h1] at hc; cases hc; exact hnb b cs hb]
  exact h1
theorem eqB_refl (f : Fm) : eqB f f = true := eqB_true.2 rfl

end Go.Proofs.Tryz
