/-
  DERIVED. GIVEN WITH THE SEED: THE CARDS: each row of YtdbmgeebmfpmpaaGreatDoorRows.lean that lists a variable, with what it lists TIED to the program's text (the seventh form; the later family's looks); each row that meets fmt, with fmt's text TOLD by the authors' own Lean function (tested against real Go, not proved from fmt's source: count such statements apart). THE CARD IS WHAT COUNTS. Prove the row's statement (the work); the ties are given (YtdbmgeebmfpmpaaGreatDoorTie.lean); close each card by the builder's one call (the guide's Derived/Test/ToyasCard.lean, 'card_holds'). Laid BY PROGRAM, IN A SANDBOX (cutbox-door.mjs). By AI agents, Wed Nov 11 2026. No macro, syntax, notation, axiom, sorry.
-/
import Derived.Test.YtdbmgeebmfpmpaaGreatDoorRows
import GoSem.ClaimSeven
namespace Go.Proofs.YtdbmgeebmfpmpaaGreatDoor
namespace Rows

/-- THE TIED CARD OF 'lyceumlaw27.HintWrong'. -/
def hintWrongCard : Claim7 := { stood := { row := hintWrongRow, standIns := [], harness := (true, "e37a5afa1003a4fb700de363b730ff3a72429577f25e530d360be7e4b1933889"), looks := false }, kinds := [], alts := [], laidByText := true, laidKinds := [.data, .data, .data, .data], laidTests := true, laidLooks := .later }
def HintWrongCardSaid : Prop := Claim7.holds Tryz.pinned (.plain (OpenSpec.ofChange hintWrongSpec)) hintWrongCard

/-- THE SECOND FORM's CARD OF 'lyceumlaw27.HintWrong'. -/
def hintWrongUptoCard : Claim7 := { stood := { row := hintWrongUptoRow, standIns := [], harness := (true, "e37a5afa1003a4fb700de363b730ff3a72429577f25e530d360be7e4b1933889"), looks := false }, kinds := [], alts := [], laidByText := true, laidKinds := [.data, .data, .data, .data], laidTests := true, laidLooks := .later }
def HintWrongUptoCardSaid : Prop := Claim7.holds Tryz.pinned (.plain (OpenSpec.upto hintWrongSpec)) hintWrongUptoCard
end Rows
end Go.Proofs.YtdbmgeebmfpmpaaGreatDoor
