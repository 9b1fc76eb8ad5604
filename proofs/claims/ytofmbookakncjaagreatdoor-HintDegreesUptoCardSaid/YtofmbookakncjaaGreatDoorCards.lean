/-
  DERIVED. GIVEN WITH THE SEED: THE CARDS: each row of YtofmbookakncjaaGreatDoorRows.lean that lists a variable, with what it lists TIED to the program's text (the seventh form; the later family's looks); each row that meets fmt, with fmt's text TOLD by the authors' own Lean function (tested against real Go, not proved from fmt's source: count such statements apart). THE CARD IS WHAT COUNTS. Prove the row's statement (the work); the ties are given (YtofmbookakncjaaGreatDoorTie.lean); close each card by the builder's one call (the guide's Derived/Test/ToyasCard.lean, 'card_holds'). Laid BY PROGRAM, IN A SANDBOX (cutbox-door.mjs). By AI agents, Wed Nov 11 2026. No macro, syntax, notation, axiom, sorry.
-/
import Derived.Test.YtofmbookakncjaaGreatDoorRows
import GoSem.ClaimSeven
namespace Go.Proofs.YtofmbookakncjaaGreatDoor
namespace Rows

/-- THE TIED CARD OF 'lyceumlaw27.HintDegrees'. -/
def hintDegreesCard : Claim7 := { stood := { row := hintDegreesRow, standIns := [], harness := (true, "866d35f435e54f68f37ff0b6899c5673ee9366756ce58282444ce6aeb3492b02"), looks := false }, kinds := [], alts := [], laidByText := true, laidKinds := [.data, .data, .data, .data], laidTests := true, laidLooks := .later }
def HintDegreesCardSaid : Prop := Claim7.holds Tryz.pinned (.plain (OpenSpec.ofChange hintDegreesSpec)) hintDegreesCard

/-- THE SECOND FORM's CARD OF 'lyceumlaw27.HintDegrees'. -/
def hintDegreesUptoCard : Claim7 := { stood := { row := hintDegreesUptoRow, standIns := [], harness := (true, "866d35f435e54f68f37ff0b6899c5673ee9366756ce58282444ce6aeb3492b02"), looks := false }, kinds := [], alts := [], laidByText := true, laidKinds := [.data, .data, .data, .data], laidTests := true, laidLooks := .later }
def HintDegreesUptoCardSaid : Prop := Claim7.holds Tryz.pinned (.plain (OpenSpec.upto hintDegreesSpec)) hintDegreesUptoCard
end Rows
end Go.Proofs.YtofmbookakncjaaGreatDoor
