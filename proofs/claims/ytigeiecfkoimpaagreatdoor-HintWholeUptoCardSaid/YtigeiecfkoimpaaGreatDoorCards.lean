/-
  DERIVED. GIVEN WITH THE SEED: THE CARDS: each row of YtigeiecfkoimpaaGreatDoorRows.lean that lists a variable, with what it lists TIED to the program's text (the seventh form; the later family's looks); each row that meets fmt, with fmt's text TOLD by the authors' own Lean function (tested against real Go, not proved from fmt's source: count such statements apart). THE CARD IS WHAT COUNTS. Prove the row's statement (the work); the ties are given (YtigeiecfkoimpaaGreatDoorTie.lean); close each card by the builder's one call (the guide's Derived/Test/ToyasCard.lean, 'card_holds'). Laid BY PROGRAM, IN A SANDBOX (cutbox-door.mjs). By AI agents, Wed Nov 11 2026. No macro, syntax, notation, axiom, sorry.
-/
import Derived.Test.YtigeiecfkoimpaaGreatDoorRows
import GoSem.ClaimSeven
namespace Go.Proofs.YtigeiecfkoimpaaGreatDoor
namespace Rows

/-- THE TIED CARD OF 'lyceumlaw27.HintWhole'. -/
def hintWholeCard : Claim7 := { stood := { row := hintWholeRow, standIns := [], harness := (true, "ddda935f347debee170afc06242eeeafa2d2a1bc4e92ccb656df68e011507ce8"), looks := false }, kinds := [], alts := [], laidByText := true, laidKinds := [.data, .data, .data, .data], laidTests := true, laidLooks := .later }
def HintWholeCardSaid : Prop := Claim7.holds Tryz.pinned (.plain (OpenSpec.ofChange hintWholeSpec)) hintWholeCard

/-- THE SECOND FORM's CARD OF 'lyceumlaw27.HintWhole'. -/
def hintWholeUptoCard : Claim7 := { stood := { row := hintWholeUptoRow, standIns := [], harness := (true, "ddda935f347debee170afc06242eeeafa2d2a1bc4e92ccb656df68e011507ce8"), looks := false }, kinds := [], alts := [], laidByText := true, laidKinds := [.data, .data, .data, .data], laidTests := true, laidLooks := .later }
def HintWholeUptoCardSaid : Prop := Claim7.holds Tryz.pinned (.plain (OpenSpec.upto hintWholeSpec)) hintWholeUptoCard
end Rows
end Go.Proofs.YtigeiecfkoimpaaGreatDoor
