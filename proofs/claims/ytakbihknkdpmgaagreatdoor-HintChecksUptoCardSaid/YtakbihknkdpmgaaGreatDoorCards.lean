/-
  DERIVED. GIVEN WITH THE SEED: THE CARDS: each row of YtakbihknkdpmgaaGreatDoorRows.lean that lists a variable, with what it lists TIED to the program's text (the seventh form; the later family's looks); each row that meets fmt, with fmt's text TOLD by the authors' own Lean function (tested against real Go, not proved from fmt's source: count such statements apart). THE CARD IS WHAT COUNTS. Prove the row's statement (the work); the ties are given (YtakbihknkdpmgaaGreatDoorTie.lean); close each card by the builder's one call (the guide's Derived/Test/ToyasCard.lean, 'card_holds'). Laid BY PROGRAM, IN A SANDBOX (cutbox-door.mjs). By AI agents, Wed Nov 11 2026. No macro, syntax, notation, axiom, sorry.
-/
import Derived.Test.YtakbihknkdpmgaaGreatDoorRows
import GoSem.ClaimSeven
namespace Go.Proofs.YtakbihknkdpmgaaGreatDoor
namespace Rows

/-- THE TIED CARD OF 'lyceumlaw27.HintChecks'. -/
def hintChecksCard : Claim7 := { stood := { row := hintChecksRow, standIns := [], harness := (true, "994fd7e71be7a2f7ef02f79c420b610dcce2992009c50b03116845e1d71b1b97"), looks := false }, kinds := [], alts := [], laidByText := true, laidKinds := [.data, .data, .data, .data], laidTests := true, laidLooks := .later }
def HintChecksCardSaid : Prop := Claim7.holds Tryz.pinned (.plain (OpenSpec.ofChange hintChecksSpec)) hintChecksCard

/-- THE SECOND FORM's CARD OF 'lyceumlaw27.HintChecks'. -/
def hintChecksUptoCard : Claim7 := { stood := { row := hintChecksUptoRow, standIns := [], harness := (true, "994fd7e71be7a2f7ef02f79c420b610dcce2992009c50b03116845e1d71b1b97"), looks := false }, kinds := [], alts := [], laidByText := true, laidKinds := [.data, .data, .data, .data], laidTests := true, laidLooks := .later }
def HintChecksUptoCardSaid : Prop := Claim7.holds Tryz.pinned (.plain (OpenSpec.upto hintChecksSpec)) hintChecksUptoCard
end Rows
end Go.Proofs.YtakbihknkdpmgaaGreatDoor
