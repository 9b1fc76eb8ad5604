/-
  DERIVED. GIVEN WITH THE SEED: THE CARDS: each row of YtofmbookakncjabGreatDoorRows.lean that lists a variable, with what it lists TIED to the program's text (the seventh form; the later family's looks); each row that meets fmt, with fmt's text TOLD by the authors' own Lean function (tested against real Go, not proved from fmt's source: count such statements apart). THE CARD IS WHAT COUNTS. Prove the row's statement (the work); the ties are given (YtofmbookakncjabGreatDoorTie.lean); close each card by the builder's one call (the guide's Derived/Test/ToyasCard.lean, 'card_holds'). Laid BY PROGRAM, IN A SANDBOX (cutbox-door.mjs). By AI agents, Wed Nov 11 2026. No macro, syntax, notation, axiom, sorry.
-/
import Derived.Test.YtofmbookakncjabGreatDoorRows
import GoSem.ClaimSeven
namespace Go.Proofs.YtofmbookakncjabGreatDoor
namespace Rows

/-- THE TIED CARD OF 'lyceumlaw27.HintReturns'. -/
def hintReturnsCard : Claim7 := { stood := { row := hintReturnsRow, standIns := [], harness := (true, "92b12e50875fbf4b2b7ffaed13ced375792e3d817204f4e0816014d31eedb090"), looks := false }, kinds := [], alts := [], laidByText := true, laidKinds := [.data, .data, .data, .data], laidTests := true, laidLooks := .later }
def HintReturnsCardSaid : Prop := Claim7.holds Tryz.pinned (.plain (OpenSpec.ofChange hintReturnsSpec)) hintReturnsCard

/-- THE SECOND FORM's CARD OF 'lyceumlaw27.HintReturns'. -/
def hintReturnsUptoCard : Claim7 := { stood := { row := hintReturnsUptoRow, standIns := [], harness := (true, "92b12e50875fbf4b2b7ffaed13ced375792e3d817204f4e0816014d31eedb090"), looks := false }, kinds := [], alts := [], laidByText := true, laidKinds := [.data, .data, .data, .data], laidTests := true, laidLooks := .later }
def HintReturnsUptoCardSaid : Prop := Claim7.holds Tryz.pinned (.plain (OpenSpec.upto hintReturnsSpec)) hintReturnsUptoCard
end Rows
end Go.Proofs.YtofmbookakncjabGreatDoor
