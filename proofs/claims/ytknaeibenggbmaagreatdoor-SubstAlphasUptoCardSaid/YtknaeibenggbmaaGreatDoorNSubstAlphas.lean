/- The law SubstAlphas of lyceumlaw03, where what it reads is of bulk at most 1048576: proved here: the second form's card. -/
import Derived.Test.YtknaeibenggbmaaGreatDoorLG
import Derived.Test.YtknaeibenggbmaaGreatDoorKY
import Derived.Test.YtknaeibenggbmaaGreatDoorKE
import Derived.Test.YtknaeibenggbmaaGreatDoorCards
import Derived.Test.YtknaeibenggbmaaGreatDoorTie
import Derived.WalkKit
import Derived.ProofKit
import Derived.OpenShut
import Derived.Deep.DeepHandedRow
set_option linter.all false
namespace Go.Proofs.Tryz.substAlphas
open Go Go.Iv Go.ChangeShapes Go.WideShapes Go.ChangeAt Go.RowKit
open Go.Proofs.YtknaeibenggbmaaGreatDoor Go.Proofs.Tryz
set_option maxRecDepth 8000

theorem own : ownKnob prog.godebug = none := by kernel_rfl
theorem reads_ok : ∀ t ∈ f4.params.toList, prog.readableRec t = true ∧ t < prog.types.size := by
  rw [params4]
  intro t ht
  simp only [List.mem_cons, List.not_mem_nil, or_false] at ht
  rcases ht with rfl | rfl <;> exact ⟨by kernel_rfl, of_decide_eq_true (by kernel_rfl)⟩

theorem contract (H : Type) (enc : TypeId × Value → H) (W : World) (base : Nat) (args : Array Value) (ds gs : List (DataW H)) (before : List MemPlace)
    (hval : ∀ (j : Nat) t v, f4.params[j]? = some t → args[j]? = some v → Value.okWide prog W .any base t v)
    (hW : DataW.Whole enc prog f4.params.toList Rows.substAlphasSpec.vars false W args.toList ds gs before) (hsm : Rows.uptoSmall H (ds ++ gs) = true) (hL : laidMetH prog Rows.substAlphasUptoRow.laid W) :
    Calls prog 4 args W fun e W' => ∃ v, e = .returned v ∧ Rows.substAlphasSpec.post enc prog f4 false true false false W args v W' := by
  have hW' := hW
  obtain ⟨p, q, hA, hV, rfl, hfz, hnd⟩ := hW
  have hsum := of_decide_eq_true hsm
  rw [params4] at hA hval
  obtain ⟨v0, vs0, d0, ds0, p0, q0, hargs, rfl, rfl, ⟨n0, h0⟩, r0⟩ := trodAll_cons hA
  obtain ⟨v1, vs1, d1, ds1, p1, q1, rfl, rfl, rfl, ⟨n1, h1⟩, r1⟩ := trodAll_cons r0
  obtain ⟨rfl, rfl, rfl⟩ := trodAll_nil r1
  obtain rfl : args = #[v0, v1] := by cases args; simp_all
  obtain ⟨rfl, rfl⟩ := trodVars_none hV
  simp only [List.append_nil, Rows.uptoBulkAll] at hsum
  obtain ⟨f0, x0, hx0, hf0, hb0⟩ := form_of n0 _ _ h0 (show Rows.uptoBulk d0 ≤ 1048576 by omega)
  have k0 := form_val (hval 0 _ v0 rfl rfl) hx0 hf0
  have hb0 : bulkF f0 ≤ Rows.uptoBulk d0 := hb0
  obtain ⟨f1, x1, hx1, hf1, hb1⟩ := form_of n1 _ _ h1 (show Rows.uptoBulk d1 ≤ 1048576 by omega)
  have k1 := form_val (hval 1 _ v1 rfl rfl) hx1 hf1
  have hb1 : bulkF f1 ≤ Rows.uptoBulk d1 := hb1
  exact law_post rfl hW' rfl rfl reads_ok (good0 hL) (VL.cons k0 (VL.cons k1 VL.nil))
    (SubstAlphas_c G0 T0 aged0 f0 f1 x0 x1 hf0 hf1 (by omega) (by omega))

def wit : Array Value := #[.agg #[.int .u8 0, .string ⟨#[]⟩, .slice none 0 0, .slice none 0 0], .agg #[.int .u8 0, .string ⟨#[]⟩, .slice none 0 0, .slice none 0 0]]
theorem reads (os : Os) {H : Type} (enc : TypeId × Value → H) : ∃ places, DataW.whole enc prog ((laidWorld os).forCall (fun _ _ => 0) ⟨#[], wit, []⟩).memory f4.params.toList Rows.substAlphasSpec.vars false wit.toList 8 =
    some ([.agg [.lit (.int .u8 0), .lit (.string []), .nil, .nil], .agg [.lit (.int .u8 0), .lit (.string []), .nil, .nil]], [], places) := ⟨[], by kernel_rfl⟩

set_option maxRecDepth 100000 in
theorem liftedUpto (os : Os) (started : os.Started) (H : Type) (enc : TypeId × Value → H) (F : Stop.Interp) :
    ReturnsInHanded {} checked os 4 .any ((Rows.OpenSpec.upto Rows.substAlphasSpec).preRow enc prog f4 Rows.substAlphasUptoRow.domain false Rows.substAlphasUptoRow.laid) (((Rows.OpenSpec.upto Rows.substAlphasSpec).at F).post enc prog f4 false true false false) := by
  obtain ⟨places, hx⟩ := reads os enc
  refine returnsInHanded_of_row (C := checked) (s := Rows.OpenSpec.upto Rows.substAlphasSpec) own started (by kernel_rfl) func4
    (witness_row_at (enc := enc) (C := checked) false (laidWorld os) wit rfl (by kernel_rfl) (by kernel_rfl) (by kernel_rfl)
      (OpenSpec.preRow_of_cond 8 hx (by kernel_rfl) (fun k hk => by cases hk; kernel_rfl) (by kernel_rfl) (laid_met os wit))) ?_
  intro W base args ds gs before hval hW _ hcond _ hL _ _
  exact contract H enc W base args ds gs before hval hW (hcond _ rfl) hL

theorem saidUpto : Rows.SubstAlphasUptoSaid :=
  OpenClaim.holds_of_cond 4 f4 rfl rfl rfl rfl rfl rfl rfl ⟨rfl, rfl, rfl, rfl, rfl⟩ rfl rfl rfl rfl rfl (by kernel_rfl) func4 (by kernel_rfl)
    (of_decide_eq_true (by kernel_rfl)) (by unfold Func.isWrapper; first | (rw [if_pos (by decide +kernel)]; kernel_rfl) | (rw [if_neg (by decide +kernel)]; exact ⟨rfl, rfl⟩))
    (fun os started H enc _ F => by rw [OpenClaim.pre_eq_preRow]; exact liftedUpto os started H enc F)

/-- No parameter wants a stand-in; the program's own looks are off. -/
theorem plain (f : FuncId) (fn : Func) (hf : Tryz.pinned.checked.prog.funcNamed "lyceum/lyceumlaw03.SubstAlphas" = some f) (hfn : Tryz.pinned.checked.prog.funcs[f]? = some fn) :
    false = Tryz.pinned.checked.prog.looks [] ∧ ∀ (j : Nat) t, fn.params[j]? = some t → Tryz.pinned.checked.prog.wantsStandIn t = false := by
  obtain rfl : f = 4 := Option.some.inj ((show prog.funcNamed "lyceum/lyceumlaw03.SubstAlphas" = some 4 by kernel_rfl).symm.trans hf) |>.symm
  obtain rfl : fn = f4 := (Option.some.inj (func4.symm.trans hfn)).symm
  refine ⟨by kernel_rfl, fun j t ht => ?_⟩
  have hm : t ∈ f4.params.toList := Array.mem_toList_iff.2 (Array.mem_of_getElem? ht)
  rw [params4] at hm
  simp only [List.mem_cons, List.not_mem_nil, or_false] at hm
  rcases hm with rfl | rfl <;> exact (show prog.wantsStandIn _ = false by kernel_rfl)

/-- ████ THE SECOND FORM's CARD ████ -/
theorem cardUpto : Rows.SubstAlphasUptoCardSaid :=
  Claim7.holds_tied_plain_at .later [] _ _ _ _ saidUpto (fun _ h => by cases h) (by kernel_rfl) (fun _ h => by cases h) substAlphasUpto_row_tie rfl ⟨rfl, rfl⟩ (by kernel_rfl) rfl plain (by kernel_rfl)

end Go.Proofs.Tryz.substAlphas
namespace Go.Proofs.YtknaeibenggbmaaGreatDoor
/-- ████ THE SECOND FORM's CARD OF SubstAlphas ████ -/
theorem substAlphas_cardUpto : Rows.SubstAlphasUptoCardSaid := Go.Proofs.Tryz.substAlphas.cardUpto
#print axioms substAlphas_cardUpto
end Go.Proofs.YtknaeibenggbmaaGreatDoor
