/-
  DERIVED. GIVEN WITH THE SEED: THE CARDS: each row of YtgcnbkmddbmpjaaGreatDoorRows.lean that lists a variable, with what it lists TIED to the program's text (the seventh form; the later family's looks); each row that meets fmt, with fmt's text TOLD by the authors' own Lean function (tested against real Go, not proved from fmt's source: count such statements apart). THE CARD IS WHAT COUNTS. Prove the row's statement (the work); the ties are given (YtgcnbkmddbmpjaaGreatDoorTie.lean); close each card by the builder's one call (the guide's Derived/Test/ToyasCard.lean, 'card_holds'). Laid BY PROGRAM, IN A SANDBOX (cutbox-door.mjs). By AI agents, Wed Nov 11 2026. No macro, syntax, notation, axiom, sorry.
-/
import Derived.Test.YtgcnbkmddbmpjaaGreatDoorRows
import GoSem.ClaimSeven
namespace Go.Proofs.YtgcnbkmddbmpjaaGreatDoor
namespace Rows

/-- THE TIED CARD OF 'lyceumlaw27.HintChecks'. -/
def hintChecksCard : Claim7 := { stood := { row := hintChecksRow, standIns := [], harness := (true, "ac3c7e64cd74e466eaf69a443c15e0456bb897e5293069ec1be14a27e3404774"), looks := false }, kinds := [], alts := [], laidByText := true, laidKinds := [.data, .data, .data, .data], laidTests := true, laidLooks := .later }
def HintChecksCardSaid : Prop := Claim7.holds Tryz.pinned (.plain (OpenSpec.ofChange hintChecksSpec)) hintChecksCard

/-- THE TIED CARD OF 'lyceumlaw27.HintWrong'. -/
def hintWrongCard : Claim7 := { stood := { row := hintWrongRow, standIns := [], harness := (true, "ac3c7e64cd74e466eaf69a443c15e0456bb897e5293069ec1be14a27e3404774"), looks := false }, kinds := [], alts := [], laidByText := true, laidKinds := [.data, .data, .data, .data], laidTests := true, laidLooks := .later }
def HintWrongCardSaid : Prop := Claim7.holds Tryz.pinned (.plain (OpenSpec.ofChange hintWrongSpec)) hintWrongCard

/-- THE SECOND FORM's CARD OF 'lyceumlaw27.HintChecks'. -/
def hintChecksUptoCard : Claim7 := { stood := { row := hintChecksUptoRow, standIns := [], harness := (true, "ac3c7e64cd74e466eaf69a443c15e0456bb897e5293069ec1be14a27e3404774"), looks := false }, kinds := [], alts := [], laidByText := true, laidKinds := [.data, .data, .data, .data], laidTests := true, laidLooks := .later }
def HintChecksUptoCardSaid : Prop := Claim7.holds Tryz.pinned (.plain (OpenSpec.upto hintChecksSpec)) hintChecksUptoCard

/-- THE SECOND FORM's CARD OF 'lyceumlaw27.HintWrong'. -/
def hintWrongUptoCard : Claim7 := { stood := { row := hintWrongUptoRow, standIns := [], harness := (true, "ac3c7e64cd74e466eaf69a443c15e0456bb897e5293069ec1be14a27e3404774"), looks := false }, kinds := [], alts := [], laidByText := true, laidKinds := [.data, .data, .data, .data], laidTests := true, laidLooks := .later }
def HintWrongUptoCardSaid : Prop := Claim7.holds Tryz.pinned (.plain (OpenSpec.upto hintWrongSpec)) hintWrongUptoCard
end Rows
end Go.Proofs.YtgcnbkmddbmpjaaGreatDoor
