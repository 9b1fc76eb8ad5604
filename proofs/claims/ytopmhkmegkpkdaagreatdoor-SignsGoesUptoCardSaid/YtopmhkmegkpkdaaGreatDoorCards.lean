/-
  DERIVED. GIVEN WITH THE SEED: THE CARDS: each row of YtopmhkmegkpkdaaGreatDoorRows.lean that lists a variable, with what it lists TIED to the program's text (the seventh form; the later family's looks); each row that meets fmt, with fmt's text TOLD by the authors' own Lean function (tested against real Go, not proved from fmt's source: count such statements apart). THE CARD IS WHAT COUNTS. Prove the row's statement (the work); the ties are given (YtopmhkmegkpkdaaGreatDoorTie.lean); close each card by the builder's one call (the guide's Derived/Test/ToyasCard.lean, 'card_holds'). Laid BY PROGRAM, IN A SANDBOX (cutbox-door.mjs). By AI agents, Wed Nov 11 2026. No macro, syntax, notation, axiom, sorry.
-/
import Derived.Test.YtopmhkmegkpkdaaGreatDoorRows
import GoSem.ClaimSeven
namespace Go.Proofs.YtopmhkmegkpkdaaGreatDoor
namespace Rows

/-- THE TIED CARD OF 'lyceumlaw23.SignsGoes'. -/
def signsGoesCard : Claim7 := { stood := { row := signsGoesRow, standIns := [], harness := (true, "41524bbb065736d9dfe14c10791889927381c3f081bee774e2908d3ab3ab58e7"), looks := false }, kinds := [], alts := [], laidByText := true, laidKinds := [.data, .data, .data, .data], laidTests := true, laidLooks := .later }
def SignsGoesCardSaid : Prop := Claim7.holds Tryz.pinned (.plain (OpenSpec.ofChange signsGoesSpec)) signsGoesCard

/-- THE SECOND FORM's CARD OF 'lyceumlaw23.SignsGoes'. -/
def signsGoesUptoCard : Claim7 := { stood := { row := signsGoesUptoRow, standIns := [], harness := (true, "41524bbb065736d9dfe14c10791889927381c3f081bee774e2908d3ab3ab58e7"), looks := false }, kinds := [], alts := [], laidByText := true, laidKinds := [.data, .data, .data, .data], laidTests := true, laidLooks := .later }
def SignsGoesUptoCardSaid : Prop := Claim7.holds Tryz.pinned (.plain (OpenSpec.upto signsGoesSpec)) signsGoesUptoCard
end Rows
end Go.Proofs.YtopmhkmegkpkdaaGreatDoor
