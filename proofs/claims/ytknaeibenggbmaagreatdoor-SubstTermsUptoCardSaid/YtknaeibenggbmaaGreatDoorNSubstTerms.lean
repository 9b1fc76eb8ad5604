/- The law SubstTerms of lyceumlaw03, where what it reads is of bulk at most 1048576: proved here: the second form's card. -/
import Derived.Test.YtknaeibenggbmaaGreatDoorKX
import Derived.Test.YtknaeibenggbmaaGreatDoorKY
import Derived.Test.YtknaeibenggbmaaGreatDoorKE
import Derived.Test.YtknaeibenggbmaaGreatDoorCards
import Derived.Test.YtknaeibenggbmaaGreatDoorTie
import Derived.WalkKit
import Derived.ProofKit
import Derived.OpenShut
import Derived.Deep.DeepHandedRow
set_option linter.all false
namespace Go.Proofs.Tryz.substTerms
open Go Go.Iv Go.ChangeShapes Go.WideShapes Go.ChangeAt Go.RowKit
open Go.Proofs.YtknaeibenggbmaaGreatDoor Go.Proofs.Tryz
set_option maxRecDepth 8000

theorem own : ownKnob prog.godebug = none := by kernel_rfl
theorem reads_ok : ∀ t ∈ f11.params.toList, prog.readableRec t = true ∧ t < prog.types.size := by
  rw [params11]
  intro t ht
  simp only [List.mem_cons, List.not_mem_nil, or_false] at ht
  rcases ht with rfl | rfl <;> exact ⟨by kernel_rfl, of_decide_eq_true (by kernel_rfl)⟩

theorem contract (H : Type) (enc : TypeId × Value → H) (W : World) (base : Nat) (args : Array Value) (ds gs : List (DataW H)) (before : List MemPlace)
    (hval : ∀ (j : Nat) t v, f11.params[j]? = some t → args[j]? = some v → Value.okWide prog W .any base t v)
    (hW : DataW.Whole enc prog f11.params.toList Rows.substTermsSpec.vars false W args.toList ds gs before) (hsm : Rows.uptoSmall H (ds ++ gs) = true) (hL : laidMetH prog Rows.substTermsUptoRow.laid W) :
    Calls prog 11 args W fun e W' => ∃ v, e = .returned v ∧ Rows.substTermsSpec.post enc prog f11 false true false false W args v W' := by
  have hW' := hW
  obtain ⟨p, q, hA, hV, rfl, hfz, hnd⟩ := hW
  have hsum := of_decide_eq_true hsm
  rw [params11] at hA hval
  obtain ⟨v0, vs0, d0, ds0, p0, q0, hargs, rfl, rfl, ⟨n0, h0⟩, r0⟩ := trodAll_cons hA
  obtain ⟨v1, vs1, d1, ds1, p1, q1, rfl, rfl, rfl, ⟨n1, h1⟩, r1⟩ := trodAll_cons r0
  obtain ⟨rfl, rfl, rfl⟩ := trodAll_nil r1
  obtain rfl : args = #[v0, v1] := by cases args; simp_all
  obtain ⟨rfl, rfl⟩ := trodVars_none hV
  simp only [List.append_nil, Rows.uptoBulkAll] at hsum
  obtain ⟨t0, y0, hy0, ht0, hb0⟩ := term_of n0 _ _ h0 (show Rows.uptoBulk d0 ≤ 1048576 by omega)
  have k0 := term_val (hval 0 _ v0 rfl rfl) hy0 ht0
  have hb0 : bulkT t0 ≤ Rows.uptoBulk d0 := hb0
  obtain ⟨w1, tg1, xs1, l1, hc1, k1, htg1, hl1, hbl1⟩ := ones_of h1 (show Rows.uptoBulk d1 ≤ 1048576 by omega)
  have e1 := slice_val uOnes (hval 1 _ v1 rfl rfl) hc1
  subst e1
  exact law_post rfl hW' rfl rfl reads_ok (good0 hL) (VL.cons k0 (VL.cons k1 VL.nil))
    (SubstTerms_c gl0 G0 T0 aged0 t0 y0 ht0 l1 tg1 xs1 htg1 hl1 (by omega) (fun o ho => by have := hbl1 o ho; omega))

def wit : Array Value := #[.agg #[.bool false, .string ⟨#[]⟩, .slice none 0 0], .slice none 0 0]
theorem reads (os : Os) {H : Type} (enc : TypeId × Value → H) : ∃ places, DataW.whole enc prog ((laidWorld os).forCall (fun _ _ => 0) ⟨#[], wit, []⟩).memory f11.params.toList Rows.substTermsSpec.vars false wit.toList 8 =
    some ([.agg [.lit (.bool false), .lit (.string []), .nil], .nil], [], places) := ⟨[], by kernel_rfl⟩

set_option maxRecDepth 100000 in
theorem liftedUpto (os : Os) (started : os.Started) (H : Type) (enc : TypeId × Value → H) (F : Stop.Interp) :
    ReturnsInHanded {} checked os 11 .any ((Rows.OpenSpec.upto Rows.substTermsSpec).preRow enc prog f11 Rows.substTermsUptoRow.domain false Rows.substTermsUptoRow.laid) (((Rows.OpenSpec.upto Rows.substTermsSpec).at F).post enc prog f11 false true false false) := by
  obtain ⟨places, hx⟩ := reads os enc
  refine returnsInHanded_of_row (C := checked) (s := Rows.OpenSpec.upto Rows.substTermsSpec) own started (by kernel_rfl) func11
    (witness_row_at (enc := enc) (C := checked) false (laidWorld os) wit rfl (by kernel_rfl) (by kernel_rfl) (by kernel_rfl)
      (OpenSpec.preRow_of_cond 8 hx (by kernel_rfl) (fun k hk => by cases hk; kernel_rfl) (by kernel_rfl) (laid_met os wit))) ?_
  intro W base args ds gs before hval hW _ hcond _ hL _ _
  exact contract H enc W base args ds gs before hval hW (hcond _ rfl) hL

theorem saidUpto : Rows.SubstTermsUptoSaid :=
  OpenClaim.holds_of_cond 11 f11 rfl rfl rfl rfl rfl rfl rfl ⟨rfl, rfl, rfl, rfl, rfl⟩ rfl rfl rfl rfl rfl (by kernel_rfl) func11 (by kernel_rfl)
    (of_decide_eq_true (by kernel_rfl)) (by unfold Func.isWrapper; first | (rw [if_pos (by decide +kernel)]; kernel_rfl) | (rw [if_neg (by decide +kernel)]; exact ⟨rfl, rfl⟩))
    (fun os started H enc _ F => by rw [OpenClaim.pre_eq_preRow]; exact liftedUpto os started H enc F)

/-- No parameter wants a stand-in; the program's own looks are off. -/
theorem plain (f : FuncId) (fn : Func) (hf : Tryz.pinned.checked.prog.funcNamed "lyceum/lyceumlaw03.SubstTerms" = some f) (hfn : Tryz.pinned.checked.prog.funcs[f]? = some fn) :
    false = Tryz.pinned.checked.prog.looks [] ∧ ∀ (j : Nat) t, fn.params[j]? = some t → Tryz.pinned.checked.prog.wantsStandIn t = false := by
  obtain rfl : f = 11 := Option.some.inj ((show prog.funcNamed "lyceum/lyceumlaw03.SubstTerms" = some 11 by kernel_rfl).symm.trans hf) |>.symm
  obtain rfl : fn = f11 := (Option.some.inj (func11.symm.trans hfn)).symm
  refine ⟨by kernel_rfl, fun j t ht => ?_⟩
  have hm : t ∈ f11.params.toList := Array.mem_toList_iff.2 (Array.mem_of_getElem? ht)
  rw [params11] at hm
  simp only [List.mem_cons, List.not_mem_nil, or_false] at hm
  rcases hm with rfl | rfl <;> exact (show prog.wantsStandIn _ = false by kernel_rfl)

/-- ████ THE SECOND FORM's CARD ████ -/
theorem cardUpto : Rows.SubstTermsUptoCardSaid :=
  Claim7.holds_tied_plain_at .later [] _ _ _ _ saidUpto (fun _ h => by cases h) (by kernel_rfl) (fun _ h => by cases h) substTermsUpto_row_tie rfl ⟨rfl, rfl⟩ (by kernel_rfl) rfl plain (by kernel_rfl)

end Go.Proofs.Tryz.substTerms
namespace Go.Proofs.YtknaeibenggbmaaGreatDoor
/-- ████ THE SECOND FORM's CARD OF SubstTerms ████ -/
theorem substTerms_cardUpto : Rows.SubstTermsUptoCardSaid := Go.Proofs.Tryz.substTerms.cardUpto
#print axioms substTerms_cardUpto
end Go.Proofs.YtknaeibenggbmaaGreatDoor
