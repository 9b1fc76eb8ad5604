/-
  DERIVED. GIVEN WITH THE SEED: THE CARDS: each row of YtclkffdkahljeaaGreatDoorRows.lean that lists a variable, with what it lists TIED to the program's text (the seventh form; the later family's looks); each row that meets fmt, with fmt's text TOLD by the authors' own Lean function (tested against real Go, not proved from fmt's source: count such statements apart). THE CARD IS WHAT COUNTS. Prove the row's statement (the work); the ties are given (YtclkffdkahljeaaGreatDoorTie.lean); close each card by the builder's one call (the guide's Derived/Test/ToyasCard.lean, 'card_holds'). Laid BY PROGRAM, IN A SANDBOX (cutbox-door.mjs). By AI agents, Wed Nov 11 2026. No macro, syntax, notation, axiom, sorry.
-/
import Derived.Test.YtclkffdkahljeaaGreatDoorRows
import GoSem.ClaimSeven
namespace Go.Proofs.YtclkffdkahljeaaGreatDoor
namespace Rows

/-- THE TIED CARD OF 'lyceumlaw26.SearchWrong'. -/
def searchWrongCard : Claim7 := { stood := { row := searchWrongRow, standIns := [], harness := (true, "106a5c80452e58a0fb9c8951c30401b6728a3c450b037b0982c64711504cc06e"), looks := false }, kinds := [], alts := [], laidByText := true, laidKinds := [.data, .data, .data, .data], laidTests := true, laidLooks := .later }
def SearchWrongCardSaid : Prop := Claim7.holds Tryz.pinned (.plain (OpenSpec.ofChange searchWrongSpec)) searchWrongCard

/-- THE TIED CARD OF 'lyceumlaw26.SearchDecides'. -/
def searchDecidesCard : Claim7 := { stood := { row := searchDecidesRow, standIns := [], harness := (true, "106a5c80452e58a0fb9c8951c30401b6728a3c450b037b0982c64711504cc06e"), looks := false }, kinds := [], alts := [], laidByText := true, laidKinds := [.data, .data, .data, .data], laidTests := true, laidLooks := .later }
def SearchDecidesCardSaid : Prop := Claim7.holds Tryz.pinned (.plain (OpenSpec.ofChange searchDecidesSpec)) searchDecidesCard

/-- THE TIED CARD OF 'lyceumlaw26.SearchGlivenko'. -/
def searchGlivenkoCard : Claim7 := { stood := { row := searchGlivenkoRow, standIns := [], harness := (true, "106a5c80452e58a0fb9c8951c30401b6728a3c450b037b0982c64711504cc06e"), looks := false }, kinds := [], alts := [], laidByText := true, laidKinds := [.data, .data, .data, .data], laidTests := true, laidLooks := .later }
def SearchGlivenkoCardSaid : Prop := Claim7.holds Tryz.pinned (.plain (OpenSpec.ofChange searchGlivenkoSpec)) searchGlivenkoCard

/-- THE TIED CARD OF 'lyceumlaw26.SearchDisjoint'. -/
def searchDisjointCard : Claim7 := { stood := { row := searchDisjointRow, standIns := [], harness := (true, "106a5c80452e58a0fb9c8951c30401b6728a3c450b037b0982c64711504cc06e"), looks := false }, kinds := [], alts := [], laidByText := true, laidKinds := [.data, .data, .data, .data], laidTests := true, laidLooks := .later }
def SearchDisjointCardSaid : Prop := Claim7.holds Tryz.pinned (.plain (OpenSpec.ofChange searchDisjointSpec)) searchDisjointCard

/-- THE TIED CARD OF 'lyceumlaw26.SearchOrders'. -/
def searchOrdersCard : Claim7 := { stood := { row := searchOrdersRow, standIns := [], harness := (true, "106a5c80452e58a0fb9c8951c30401b6728a3c450b037b0982c64711504cc06e"), looks := false }, kinds := [], alts := [], laidByText := true, laidKinds := [.data, .data, .data, .data], laidTests := true, laidLooks := .later }
def SearchOrdersCardSaid : Prop := Claim7.holds Tryz.pinned (.plain (OpenSpec.ofChange searchOrdersSpec)) searchOrdersCard

/-- THE TIED CARD OF 'lyceumlaw26.SearchSteps'. -/
def searchStepsCard : Claim7 := { stood := { row := searchStepsRow, standIns := [], harness := (true, "106a5c80452e58a0fb9c8951c30401b6728a3c450b037b0982c64711504cc06e"), looks := false }, kinds := [], alts := [], laidByText := true, laidKinds := [.data, .data, .data, .data], laidTests := true, laidLooks := .later }
def SearchStepsCardSaid : Prop := Claim7.holds Tryz.pinned (.plain (OpenSpec.ofChange searchStepsSpec)) searchStepsCard

/-- THE TIED CARD OF 'lyceumlaw26.SearchProves'. -/
def searchProvesCard : Claim7 := { stood := { row := searchProvesRow, standIns := [], harness := (true, "106a5c80452e58a0fb9c8951c30401b6728a3c450b037b0982c64711504cc06e"), looks := false }, kinds := [], alts := [], laidByText := true, laidKinds := [.data, .data, .data, .data], laidTests := true, laidLooks := .later }
def SearchProvesCardSaid : Prop := Claim7.holds Tryz.pinned (.plain (OpenSpec.ofChange searchProvesSpec)) searchProvesCard

/-- THE SECOND FORM's CARD OF 'lyceumlaw26.SearchWrong'. -/
def searchWrongUptoCard : Claim7 := { stood := { row := searchWrongUptoRow, standIns := [], harness := (true, "106a5c80452e58a0fb9c8951c30401b6728a3c450b037b0982c64711504cc06e"), looks := false }, kinds := [], alts := [], laidByText := true, laidKinds := [.data, .data, .data, .data], laidTests := true, laidLooks := .later }
def SearchWrongUptoCardSaid : Prop := Claim7.holds Tryz.pinned (.plain (OpenSpec.upto searchWrongSpec)) searchWrongUptoCard

/-- THE SECOND FORM's CARD OF 'lyceumlaw26.SearchDecides'. -/
def searchDecidesUptoCard : Claim7 := { stood := { row := searchDecidesUptoRow, standIns := [], harness := (true, "106a5c80452e58a0fb9c8951c30401b6728a3c450b037b0982c64711504cc06e"), looks := false }, kinds := [], alts := [], laidByText := true, laidKinds := [.data, .data, .data, .data], laidTests := true, laidLooks := .later }
def SearchDecidesUptoCardSaid : Prop := Claim7.holds Tryz.pinned (.plain (OpenSpec.upto searchDecidesSpec)) searchDecidesUptoCard

/-- THE SECOND FORM's CARD OF 'lyceumlaw26.SearchGlivenko'. -/
def searchGlivenkoUptoCard : Claim7 := { stood := { row := searchGlivenkoUptoRow, standIns := [], harness := (true, "106a5c80452e58a0fb9c8951c30401b6728a3c450b037b0982c64711504cc06e"), looks := false }, kinds := [], alts := [], laidByText := true, laidKinds := [.data, .data, .data, .data], laidTests := true, laidLooks := .later }
def SearchGlivenkoUptoCardSaid : Prop := Claim7.holds Tryz.pinned (.plain (OpenSpec.upto searchGlivenkoSpec)) searchGlivenkoUptoCard

/-- THE SECOND FORM's CARD OF 'lyceumlaw26.SearchDisjoint'. -/
def searchDisjointUptoCard : Claim7 := { stood := { row := searchDisjointUptoRow, standIns := [], harness := (true, "106a5c80452e58a0fb9c8951c30401b6728a3c450b037b0982c64711504cc06e"), looks := false }, kinds := [], alts := [], laidByText := true, laidKinds := [.data, .data, .data, .data], laidTests := true, laidLooks := .later }
def SearchDisjointUptoCardSaid : Prop := Claim7.holds Tryz.pinned (.plain (OpenSpec.upto searchDisjointSpec)) searchDisjointUptoCard

/-- THE SECOND FORM's CARD OF 'lyceumlaw26.SearchOrders'. -/
def searchOrdersUptoCard : Claim7 := { stood := { row := searchOrdersUptoRow, standIns := [], harness := (true, "106a5c80452e58a0fb9c8951c30401b6728a3c450b037b0982c64711504cc06e"), looks := false }, kinds := [], alts := [], laidByText := true, laidKinds := [.data, .data, .data, .data], laidTests := true, laidLooks := .later }
def SearchOrdersUptoCardSaid : Prop := Claim7.holds Tryz.pinned (.plain (OpenSpec.upto searchOrdersSpec)) searchOrdersUptoCard

/-- THE SECOND FORM's CARD OF 'lyceumlaw26.SearchSteps'. -/
def searchStepsUptoCard : Claim7 := { stood := { row := searchStepsUptoRow, standIns := [], harness := (true, "106a5c80452e58a0fb9c8951c30401b6728a3c450b037b0982c64711504cc06e"), looks := false }, kinds := [], alts := [], laidByText := true, laidKinds := [.data, .data, .data, .data], laidTests := true, laidLooks := .later }
def SearchStepsUptoCardSaid : Prop := Claim7.holds Tryz.pinned (.plain (OpenSpec.upto searchStepsSpec)) searchStepsUptoCard

/-- THE SECOND FORM's CARD OF 'lyceumlaw26.SearchProves'. -/
def searchProvesUptoCard : Claim7 := { stood := { row := searchProvesUptoRow, standIns := [], harness := (true, "106a5c80452e58a0fb9c8951c30401b6728a3c450b037b0982c64711504cc06e"), looks := false }, kinds := [], alts := [], laidByText := true, laidKinds := [.data, .data, .data, .data], laidTests := true, laidLooks := .later }
def SearchProvesUptoCardSaid : Prop := Claim7.holds Tryz.pinned (.plain (OpenSpec.upto searchProvesSpec)) searchProvesUptoCard
end Rows
end Go.Proofs.YtclkffdkahljeaaGreatDoor
