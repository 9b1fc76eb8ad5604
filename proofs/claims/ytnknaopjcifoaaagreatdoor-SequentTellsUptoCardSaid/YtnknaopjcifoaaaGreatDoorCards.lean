/-
  DERIVED. GIVEN WITH THE SEED: THE CARDS: each row of YtnknaopjcifoaaaGreatDoorRows.lean that lists a variable, with what it lists TIED to the program's text (the seventh form; the later family's looks); each row that meets fmt, with fmt's text TOLD by the authors' own Lean function (tested against real Go, not proved from fmt's source: count such statements apart). THE CARD IS WHAT COUNTS. Prove the row's statement (the work); the ties are given (YtnknaopjcifoaaaGreatDoorTie.lean); close each card by the builder's one call (the guide's Derived/Test/ToyasCard.lean, 'card_holds'). Laid BY PROGRAM, IN A SANDBOX (cutbox-door.mjs). By AI agents, Wed Nov 11 2026. No macro, syntax, notation, axiom, sorry.
-/
import Derived.Test.YtnknaopjcifoaaaGreatDoorRows
import GoSem.ClaimSeven
namespace Go.Proofs.YtnknaopjcifoaaaGreatDoor
namespace Rows

/-- THE TIED CARD OF 'lyceumlaw19.SequentTells'. -/
def sequentTellsCard : Claim7 := { stood := { row := sequentTellsRow, standIns := [], harness := (true, "db59b1a6f20cf102eb188e41c01dddcdb8bd7e4e6f3f5a29c7ee5dad77d35ebf"), looks := false }, kinds := [], alts := [], laidByText := true, laidKinds := [.data, .data, .data, .data], laidTests := true, laidLooks := .later }
def SequentTellsCardSaid : Prop := Claim7.holds Tryz.pinned (.plain (OpenSpec.ofChange sequentTellsSpec)) sequentTellsCard

/-- THE SECOND FORM's CARD OF 'lyceumlaw19.SequentTells'. -/
def sequentTellsUptoCard : Claim7 := { stood := { row := sequentTellsUptoRow, standIns := [], harness := (true, "db59b1a6f20cf102eb188e41c01dddcdb8bd7e4e6f3f5a29c7ee5dad77d35ebf"), looks := false }, kinds := [], alts := [], laidByText := true, laidKinds := [.data, .data, .data, .data], laidTests := true, laidLooks := .later }
def SequentTellsUptoCardSaid : Prop := Claim7.holds Tryz.pinned (.plain (OpenSpec.upto sequentTellsSpec)) sequentTellsUptoCard
end Rows
end Go.Proofs.YtnknaopjcifoaaaGreatDoor
