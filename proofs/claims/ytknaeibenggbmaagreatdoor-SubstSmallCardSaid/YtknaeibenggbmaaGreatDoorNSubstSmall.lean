/- The law SubstSmall of lyceumlaw03: proved here: its card (the first form: it takes no argument). -/
import Derived.Test.YtknaeibenggbmaaGreatDoorLI
import Derived.Test.YtknaeibenggbmaaGreatDoorKY
import Derived.Test.YtknaeibenggbmaaGreatDoorKE
import Derived.Test.YtknaeibenggbmaaGreatDoorCards
import Derived.Test.YtknaeibenggbmaaGreatDoorTie
import Derived.WalkKit
import Derived.ProofKit
import Derived.OpenShut
import Derived.Deep.DeepHandedRow
set_option linter.all false
namespace Go.Proofs.Tryz.substSmall
open Go Go.Iv Go.ChangeShapes Go.WideShapes Go.ChangeAt Go.RowKit
open Go.Proofs.YtknaeibenggbmaaGreatDoor Go.Proofs.Tryz
set_option maxRecDepth 8000

theorem own : ownKnob prog.godebug = none := by kernel_rfl
theorem reads_ok : ∀ t ∈ f14.params.toList, prog.readableRec t = true ∧ t < prog.types.size := by
  rw [params14]
  intro t ht
  simp only [List.mem_cons, List.not_mem_nil, or_false] at ht

theorem contract (H : Type) (enc : TypeId × Value → H) (W : World) (base : Nat) (args : Array Value) (ds gs : List (DataW H)) (before : List MemPlace)
    (hval : ∀ (j : Nat) t v, f14.params[j]? = some t → args[j]? = some v → Value.okWide prog W .any base t v)
    (hW : DataW.Whole enc prog f14.params.toList Rows.substSmallSpec.vars false W args.toList ds gs before) (hL : laidMetH prog Rows.substSmallRow.laid W) :
    Calls prog 14 args W fun e W' => ∃ v, e = .returned v ∧ Rows.substSmallSpec.post enc prog f14 false true false false W args v W' := by
  have hW' := hW
  obtain ⟨p, q, hA, hV, rfl, hfz, hnd⟩ := hW
  rw [params14] at hA hval
  obtain ⟨hargs, rfl, rfl⟩ := trodAll_nil hA
  obtain rfl : args = #[] := by cases args; simp_all
  obtain ⟨rfl, rfl⟩ := trodVars_none hV
  exact law_post rfl hW' rfl rfl reads_ok (good0 hL) VL.nil
    (SubstSmall_c _ G0 T0 aged0 _)

def wit : Array Value := #[]
theorem reads (os : Os) {H : Type} (enc : TypeId × Value → H) : ∃ places, DataW.whole enc prog ((laidWorld os).forCall (fun _ _ => 0) ⟨#[], wit, []⟩).memory f14.params.toList Rows.substSmallSpec.vars false wit.toList 8 =
    some ([], [], places) := ⟨[], by kernel_rfl⟩

set_option maxRecDepth 100000 in
theorem lifted (os : Os) (started : os.Started) (H : Type) (enc : TypeId × Value → H) (F : Stop.Interp) :
    ReturnsInHanded {} checked os 14 .any ((OpenSpec.ofChange Rows.substSmallSpec).preRow enc prog f14 Rows.substSmallRow.domain false Rows.substSmallRow.laid) (((OpenSpec.ofChange Rows.substSmallSpec).at F).post enc prog f14 false true false false) := by
  obtain ⟨places, hx⟩ := reads os enc
  refine returnsInHanded_of_row (C := checked) (s := OpenSpec.ofChange Rows.substSmallSpec) own started (by kernel_rfl) func14
    (witness_row_at (enc := enc) (C := checked) false (laidWorld os) wit rfl (by kernel_rfl) (by kernel_rfl) (by kernel_rfl)
      (OpenSpec.preRow_of_cond 8 hx (by kernel_rfl) (fun k hk => by cases hk) (by kernel_rfl) (laid_met os wit))) ?_
  intro W base args ds gs before hval hW _ _ _ hL _ _
  exact contract H enc W base args ds gs before hval hW hL

theorem said : Rows.SubstSmallSaid :=
  OpenClaim.holds_of_cond 14 f14 rfl rfl rfl rfl rfl rfl rfl ⟨rfl, rfl, rfl, rfl, rfl⟩ rfl rfl rfl rfl rfl (by kernel_rfl) func14 (by kernel_rfl)
    (of_decide_eq_true (by kernel_rfl)) (by unfold Func.isWrapper; first | (rw [if_pos (by decide +kernel)]; kernel_rfl) | (rw [if_neg (by decide +kernel)]; exact ⟨rfl, rfl⟩))
    (fun os started H enc _ F => by rw [OpenClaim.pre_eq_preRow]; exact lifted os started H enc F)

theorem plain (f : FuncId) (fn : Func) (hf : Tryz.pinned.checked.prog.funcNamed "lyceum/lyceumlaw03.SubstSmall" = some f) (hfn : Tryz.pinned.checked.prog.funcs[f]? = some fn) :
    false = Tryz.pinned.checked.prog.looks [] ∧ ∀ (j : Nat) t, fn.params[j]? = some t → Tryz.pinned.checked.prog.wantsStandIn t = false := by
  obtain rfl : f = 14 := Option.some.inj ((show prog.funcNamed "lyceum/lyceumlaw03.SubstSmall" = some 14 by kernel_rfl).symm.trans hf) |>.symm
  obtain rfl : fn = f14 := (Option.some.inj (func14.symm.trans hfn)).symm
  refine ⟨by kernel_rfl, fun j t ht => ?_⟩
  have hm : t ∈ f14.params.toList := Array.mem_toList_iff.2 (Array.mem_of_getElem? ht)
  rw [params14] at hm
  simp only [List.mem_cons, List.not_mem_nil, or_false] at hm

theorem card : Rows.SubstSmallCardSaid :=
  Claim7.holds_tied_plain_at .later [] _ _ _ _ said (fun _ h => by cases h) (by kernel_rfl) (fun _ h => by cases h) substSmall_row_tie rfl ⟨rfl, rfl⟩ (by kernel_rfl) rfl plain (by kernel_rfl)

end Go.Proofs.Tryz.substSmall
namespace Go.Proofs.YtknaeibenggbmaaGreatDoor
theorem substSmall_card : Rows.SubstSmallCardSaid := Go.Proofs.Tryz.substSmall.card
#print axioms substSmall_card
end Go.Proofs.YtknaeibenggbmaaGreatDoor
