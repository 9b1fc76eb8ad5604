/-
  DERIVED. GIVEN WITH THE SEED: THE CARDS: each row of YtddfdpbibloljaaGreatDoorRows.lean that lists a variable, with what it lists TIED to the program's text (the seventh form; the later family's looks); each row that meets fmt, with fmt's text TOLD by the authors' own Lean function (tested against real Go, not proved from fmt's source: count such statements apart). THE CARD IS WHAT COUNTS. Prove the row's statement (the work); the ties are given (YtddfdpbibloljaaGreatDoorTie.lean); close each card by the builder's one call (the guide's Derived/Test/ToyasCard.lean, 'card_holds'). Laid BY PROGRAM, IN A SANDBOX (cutbox-door.mjs). By AI agents, Wed Nov 11 2026. No macro, syntax, notation, axiom, sorry.
-/
import Derived.Test.YtddfdpbibloljaaGreatDoorRows
import GoSem.ClaimSeven
namespace Go.Proofs.YtddfdpbibloljaaGreatDoor
namespace Rows

/-- THE TIED CARD OF 'lyceumlaw23.SignsRounds'. -/
def signsRoundsCard : Claim7 := { stood := { row := signsRoundsRow, standIns := [], harness := (true, "f43843c34f773b5691abfdab0856b8b6affd7bfa7a64e4a28ca6561be7bbc21a"), looks := false }, kinds := [], alts := [], laidByText := true, laidKinds := [.data, .data, .data, .data], laidTests := true, laidLooks := .later }
def SignsRoundsCardSaid : Prop := Claim7.holds Tryz.pinned (.plain (OpenSpec.ofChange signsRoundsSpec)) signsRoundsCard

/-- THE TIED CARD OF 'lyceumlaw23.SignsFew'. -/
def signsFewCard : Claim7 := { stood := { row := signsFewRow, standIns := [], harness := (true, "f43843c34f773b5691abfdab0856b8b6affd7bfa7a64e4a28ca6561be7bbc21a"), looks := false }, kinds := [], alts := [], laidByText := true, laidKinds := [.data, .data, .data, .data], laidTests := true, laidLooks := .later }
def SignsFewCardSaid : Prop := Claim7.holds Tryz.pinned (.plain (OpenSpec.ofChange signsFewSpec)) signsFewCard

/-- THE TIED CARD OF 'lyceumlaw23.SignsWrong'. -/
def signsWrongCard : Claim7 := { stood := { row := signsWrongRow, standIns := [], harness := (true, "f43843c34f773b5691abfdab0856b8b6affd7bfa7a64e4a28ca6561be7bbc21a"), looks := false }, kinds := [], alts := [], laidByText := true, laidKinds := [.data, .data, .data, .data], laidTests := true, laidLooks := .later }
def SignsWrongCardSaid : Prop := Claim7.holds Tryz.pinned (.plain (OpenSpec.ofChange signsWrongSpec)) signsWrongCard

/-- THE TIED CARD OF 'lyceumlaw23.SignsReturns'. -/
def signsReturnsCard : Claim7 := { stood := { row := signsReturnsRow, standIns := [], harness := (true, "f43843c34f773b5691abfdab0856b8b6affd7bfa7a64e4a28ca6561be7bbc21a"), looks := false }, kinds := [], alts := [], laidByText := true, laidKinds := [.data, .data, .data, .data], laidTests := true, laidLooks := .later }
def SignsReturnsCardSaid : Prop := Claim7.holds Tryz.pinned (.plain (OpenSpec.ofChange signsReturnsSpec)) signsReturnsCard

/-- THE TIED CARD OF 'lyceumlaw23.SignsKeeps'. -/
def signsKeepsCard : Claim7 := { stood := { row := signsKeepsRow, standIns := [], harness := (true, "f43843c34f773b5691abfdab0856b8b6affd7bfa7a64e4a28ca6561be7bbc21a"), looks := false }, kinds := [], alts := [], laidByText := true, laidKinds := [.data, .data, .data, .data], laidTests := true, laidLooks := .later }
def SignsKeepsCardSaid : Prop := Claim7.holds Tryz.pinned (.plain (OpenSpec.ofChange signsKeepsSpec)) signsKeepsCard

/-- THE TIED CARD OF 'lyceumlaw23.SignsUses'. -/
def signsUsesCard : Claim7 := { stood := { row := signsUsesRow, standIns := [], harness := (true, "f43843c34f773b5691abfdab0856b8b6affd7bfa7a64e4a28ca6561be7bbc21a"), looks := false }, kinds := [], alts := [], laidByText := true, laidKinds := [.data, .data, .data, .data], laidTests := true, laidLooks := .later }
def SignsUsesCardSaid : Prop := Claim7.holds Tryz.pinned (.plain (OpenSpec.ofChange signsUsesSpec)) signsUsesCard

/-- THE SECOND FORM's CARD OF 'lyceumlaw23.SignsRounds'. -/
def signsRoundsUptoCard : Claim7 := { stood := { row := signsRoundsUptoRow, standIns := [], harness := (true, "f43843c34f773b5691abfdab0856b8b6affd7bfa7a64e4a28ca6561be7bbc21a"), looks := false }, kinds := [], alts := [], laidByText := true, laidKinds := [.data, .data, .data, .data], laidTests := true, laidLooks := .later }
def SignsRoundsUptoCardSaid : Prop := Claim7.holds Tryz.pinned (.plain (OpenSpec.upto signsRoundsSpec)) signsRoundsUptoCard

/-- THE SECOND FORM's CARD OF 'lyceumlaw23.SignsFew'. -/
def signsFewUptoCard : Claim7 := { stood := { row := signsFewUptoRow, standIns := [], harness := (true, "f43843c34f773b5691abfdab0856b8b6affd7bfa7a64e4a28ca6561be7bbc21a"), looks := false }, kinds := [], alts := [], laidByText := true, laidKinds := [.data, .data, .data, .data], laidTests := true, laidLooks := .later }
def SignsFewUptoCardSaid : Prop := Claim7.holds Tryz.pinned (.plain (OpenSpec.upto signsFewSpec)) signsFewUptoCard

/-- THE SECOND FORM's CARD OF 'lyceumlaw23.SignsWrong'. -/
def signsWrongUptoCard : Claim7 := { stood := { row := signsWrongUptoRow, standIns := [], harness := (true, "f43843c34f773b5691abfdab0856b8b6affd7bfa7a64e4a28ca6561be7bbc21a"), looks := false }, kinds := [], alts := [], laidByText := true, laidKinds := [.data, .data, .data, .data], laidTests := true, laidLooks := .later }
def SignsWrongUptoCardSaid : Prop := Claim7.holds Tryz.pinned (.plain (OpenSpec.upto signsWrongSpec)) signsWrongUptoCard

/-- THE SECOND FORM's CARD OF 'lyceumlaw23.SignsReturns'. -/
def signsReturnsUptoCard : Claim7 := { stood := { row := signsReturnsUptoRow, standIns := [], harness := (true, "f43843c34f773b5691abfdab0856b8b6affd7bfa7a64e4a28ca6561be7bbc21a"), looks := false }, kinds := [], alts := [], laidByText := true, laidKinds := [.data, .data, .data, .data], laidTests := true, laidLooks := .later }
def SignsReturnsUptoCardSaid : Prop := Claim7.holds Tryz.pinned (.plain (OpenSpec.upto signsReturnsSpec)) signsReturnsUptoCard

/-- THE SECOND FORM's CARD OF 'lyceumlaw23.SignsKeeps'. -/
def signsKeepsUptoCard : Claim7 := { stood := { row := signsKeepsUptoRow, standIns := [], harness := (true, "f43843c34f773b5691abfdab0856b8b6affd7bfa7a64e4a28ca6561be7bbc21a"), looks := false }, kinds := [], alts := [], laidByText := true, laidKinds := [.data, .data, .data, .data], laidTests := true, laidLooks := .later }
def SignsKeepsUptoCardSaid : Prop := Claim7.holds Tryz.pinned (.plain (OpenSpec.upto signsKeepsSpec)) signsKeepsUptoCard

/-- THE SECOND FORM's CARD OF 'lyceumlaw23.SignsUses'. -/
def signsUsesUptoCard : Claim7 := { stood := { row := signsUsesUptoRow, standIns := [], harness := (true, "f43843c34f773b5691abfdab0856b8b6affd7bfa7a64e4a28ca6561be7bbc21a"), looks := false }, kinds := [], alts := [], laidByText := true, laidKinds := [.data, .data, .data, .data], laidTests := true, laidLooks := .later }
def SignsUsesUptoCardSaid : Prop := Claim7.holds Tryz.pinned (.plain (OpenSpec.upto signsUsesSpec)) signsUsesUptoCard
end Rows
end Go.Proofs.YtddfdpbibloljaaGreatDoor
