/-
  DERIVED. GIVEN WITH THE SEED: THE CARDS: each row of YtebjhmlmdjnkgaaGreatDoorRows.lean that lists a variable, with what it lists TIED to the program's text (the seventh form; the later family's looks); each row that meets fmt, with fmt's text TOLD by the authors' own Lean function (tested against real Go, not proved from fmt's source: count such statements apart). THE CARD IS WHAT COUNTS. Prove the row's statement (the work); the ties are given (YtebjhmlmdjnkgaaGreatDoorTie.lean); close each card by the builder's one call (the guide's Derived/Test/ToyasCard.lean, 'card_holds'). Laid BY PROGRAM, IN A SANDBOX (cutbox-door.mjs). By AI agents, Wed Nov 11 2026. No macro, syntax, notation, axiom, sorry.
-/
import Derived.Test.YtebjhmlmdjnkgaaGreatDoorRows
import GoSem.ClaimSeven
namespace Go.Proofs.YtebjhmlmdjnkgaaGreatDoor
namespace Rows

/-- THE TIED CARD OF 'lyceumlaw23.SignsSmall'. -/
def signsSmallCard : Claim7 := { stood := { row := signsSmallRow, standIns := [], harness := (true, "a2a1dcd294f3e4af33d16f24a646dfd48fa2be3c8d0ad668af894b7990fcf775"), looks := false }, kinds := [], alts := [], laidByText := true, laidKinds := [.data, .data, .data, .data], laidTests := true, laidLooks := .later }
def SignsSmallCardSaid : Prop := Claim7.holds Tryz.pinned (.plain (OpenSpec.ofChange signsSmallSpec)) signsSmallCard

/-- THE SECOND FORM's CARD OF 'lyceumlaw23.SignsSmall'. -/
def signsSmallUptoCard : Claim7 := { stood := { row := signsSmallUptoRow, standIns := [], harness := (true, "a2a1dcd294f3e4af33d16f24a646dfd48fa2be3c8d0ad668af894b7990fcf775"), looks := false }, kinds := [], alts := [], laidByText := true, laidKinds := [.data, .data, .data, .data], laidTests := true, laidLooks := .later }
def SignsSmallUptoCardSaid : Prop := Claim7.holds Tryz.pinned (.plain (OpenSpec.upto signsSmallSpec)) signsSmallUptoCard
end Rows
end Go.Proofs.YtebjhmlmdjnkgaaGreatDoor
