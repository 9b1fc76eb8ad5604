/-
  DERIVED. GIVEN WITH THE SEED: THE CARDS: each row of YtckafgnkmnichaaGreatDoorRows.lean that lists a variable, with what it lists TIED to the program's text (the seventh form; the later family's looks); each row that meets fmt, with fmt's text TOLD by the authors' own Lean function (tested against real Go, not proved from fmt's source: count such statements apart). THE CARD IS WHAT COUNTS. Prove the row's statement (the work); the ties are given (YtckafgnkmnichaaGreatDoorTie.lean); close each card by the builder's one call (the guide's Derived/Test/ToyasCard.lean, 'card_holds'). Laid BY PROGRAM, IN A SANDBOX (cutbox-door.mjs). By AI agents, Wed Nov 11 2026. No macro, syntax, notation, axiom, sorry.
-/
import Derived.Test.YtckafgnkmnichaaGreatDoorRows
import GoSem.ClaimSeven
namespace Go.Proofs.YtckafgnkmnichaaGreatDoor
namespace Rows

/-- THE TIED CARD OF 'lyceumlaw19.SequentTells'. -/
def sequentTellsCard : Claim7 := { stood := { row := sequentTellsRow, standIns := [], harness := (true, "b471034c8df130895601110fe2b667648a465d0ca76da7953b73aa0b4651fdad"), looks := false }, kinds := [], alts := [], laidByText := true, laidKinds := [.data, .data, .data, .data], laidTests := true, laidLooks := .later }
def SequentTellsCardSaid : Prop := Claim7.holds Tryz.pinned (.plain (OpenSpec.ofChange sequentTellsSpec)) sequentTellsCard

/-- THE TIED CARD OF 'lyceumlaw19.SequentParts'. -/
def sequentPartsCard : Claim7 := { stood := { row := sequentPartsRow, standIns := [], harness := (true, "b471034c8df130895601110fe2b667648a465d0ca76da7953b73aa0b4651fdad"), looks := false }, kinds := [], alts := [], laidByText := true, laidKinds := [.data, .data, .data, .data], laidTests := true, laidLooks := .later }
def SequentPartsCardSaid : Prop := Claim7.holds Tryz.pinned (.plain (OpenSpec.ofChange sequentPartsSpec)) sequentPartsCard

/-- THE TIED CARD OF 'lyceumlaw19.SequentWider'. -/
def sequentWiderCard : Claim7 := { stood := { row := sequentWiderRow, standIns := [], harness := (true, "b471034c8df130895601110fe2b667648a465d0ca76da7953b73aa0b4651fdad"), looks := false }, kinds := [], alts := [], laidByText := true, laidKinds := [.data, .data, .data, .data], laidTests := true, laidLooks := .later }
def SequentWiderCardSaid : Prop := Claim7.holds Tryz.pinned (.plain (OpenSpec.ofChange sequentWiderSpec)) sequentWiderCard

/-- THE TIED CARD OF 'lyceumlaw19.SequentPuts'. -/
def sequentPutsCard : Claim7 := { stood := { row := sequentPutsRow, standIns := [], harness := (true, "b471034c8df130895601110fe2b667648a465d0ca76da7953b73aa0b4651fdad"), looks := false }, kinds := [], alts := [], laidByText := true, laidKinds := [.data, .data, .data, .data], laidTests := true, laidLooks := .later }
def SequentPutsCardSaid : Prop := Claim7.holds Tryz.pinned (.plain (OpenSpec.ofChange sequentPutsSpec)) sequentPutsCard

/-- THE TIED CARD OF 'lyceumlaw19.SequentSets'. -/
def sequentSetsCard : Claim7 := { stood := { row := sequentSetsRow, standIns := [], harness := (true, "b471034c8df130895601110fe2b667648a465d0ca76da7953b73aa0b4651fdad"), looks := false }, kinds := [], alts := [], laidByText := true, laidKinds := [.data, .data, .data, .data], laidTests := true, laidLooks := .later }
def SequentSetsCardSaid : Prop := Claim7.holds Tryz.pinned (.plain (OpenSpec.ofChange sequentSetsSpec)) sequentSetsCard

/-- THE TIED CARD OF 'lyceumlaw19.SequentTurned'. -/
def sequentTurnedCard : Claim7 := { stood := { row := sequentTurnedRow, standIns := [], harness := (true, "b471034c8df130895601110fe2b667648a465d0ca76da7953b73aa0b4651fdad"), looks := false }, kinds := [], alts := [], laidByText := true, laidKinds := [.data, .data, .data, .data], laidTests := true, laidLooks := .later }
def SequentTurnedCardSaid : Prop := Claim7.holds Tryz.pinned (.plain (OpenSpec.ofChange sequentTurnedSpec)) sequentTurnedCard

/-- THE TIED CARD OF 'lyceumlaw19.SequentApplies'. -/
def sequentAppliesCard : Claim7 := { stood := { row := sequentAppliesRow, standIns := [], harness := (true, "b471034c8df130895601110fe2b667648a465d0ca76da7953b73aa0b4651fdad"), looks := false }, kinds := [], alts := [], laidByText := true, laidKinds := [.data, .data, .data, .data], laidTests := true, laidLooks := .later }
def SequentAppliesCardSaid : Prop := Claim7.holds Tryz.pinned (.plain (OpenSpec.ofChange sequentAppliesSpec)) sequentAppliesCard

/-- THE TIED CARD OF 'lyceumlaw19.SequentBacks'. -/
def sequentBacksCard : Claim7 := { stood := { row := sequentBacksRow, standIns := [], harness := (true, "b471034c8df130895601110fe2b667648a465d0ca76da7953b73aa0b4651fdad"), looks := false }, kinds := [], alts := [], laidByText := true, laidKinds := [.data, .data, .data, .data], laidTests := true, laidLooks := .later }
def SequentBacksCardSaid : Prop := Claim7.holds Tryz.pinned (.plain (OpenSpec.ofChange sequentBacksSpec)) sequentBacksCard

/-- THE TIED CARD OF 'lyceumlaw19.SequentWrong'. -/
def sequentWrongCard : Claim7 := { stood := { row := sequentWrongRow, standIns := [], harness := (true, "b471034c8df130895601110fe2b667648a465d0ca76da7953b73aa0b4651fdad"), looks := false }, kinds := [], alts := [], laidByText := true, laidKinds := [.data, .data, .data, .data], laidTests := true, laidLooks := .later }
def SequentWrongCardSaid : Prop := Claim7.holds Tryz.pinned (.plain (OpenSpec.ofChange sequentWrongSpec)) sequentWrongCard

/-- THE TIED CARD OF 'lyceumlaw19.SequentSmall'. -/
def sequentSmallCard : Claim7 := { stood := { row := sequentSmallRow, standIns := [], harness := (true, "b471034c8df130895601110fe2b667648a465d0ca76da7953b73aa0b4651fdad"), looks := false }, kinds := [], alts := [], laidByText := true, laidKinds := [.data, .data, .data, .data], laidTests := true, laidLooks := .later }
def SequentSmallCardSaid : Prop := Claim7.holds Tryz.pinned (.plain (OpenSpec.ofChange sequentSmallSpec)) sequentSmallCard

/-- THE TIED CARD OF 'lyceumlaw19.SequentSound'. -/
def sequentSoundCard : Claim7 := { stood := { row := sequentSoundRow, standIns := [], harness := (true, "b471034c8df130895601110fe2b667648a465d0ca76da7953b73aa0b4651fdad"), looks := false }, kinds := [], alts := [], laidByText := true, laidKinds := [.data, .data, .data, .data], laidTests := true, laidLooks := .later }
def SequentSoundCardSaid : Prop := Claim7.holds Tryz.pinned (.plain (OpenSpec.ofChange sequentSoundSpec)) sequentSoundCard

/-- THE SECOND FORM's CARD OF 'lyceumlaw19.SequentTells'. -/
def sequentTellsUptoCard : Claim7 := { stood := { row := sequentTellsUptoRow, standIns := [], harness := (true, "b471034c8df130895601110fe2b667648a465d0ca76da7953b73aa0b4651fdad"), looks := false }, kinds := [], alts := [], laidByText := true, laidKinds := [.data, .data, .data, .data], laidTests := true, laidLooks := .later }
def SequentTellsUptoCardSaid : Prop := Claim7.holds Tryz.pinned (.plain (OpenSpec.upto sequentTellsSpec)) sequentTellsUptoCard

/-- THE SECOND FORM's CARD OF 'lyceumlaw19.SequentParts'. -/
def sequentPartsUptoCard : Claim7 := { stood := { row := sequentPartsUptoRow, standIns := [], harness := (true, "b471034c8df130895601110fe2b667648a465d0ca76da7953b73aa0b4651fdad"), looks := false }, kinds := [], alts := [], laidByText := true, laidKinds := [.data, .data, .data, .data], laidTests := true, laidLooks := .later }
def SequentPartsUptoCardSaid : Prop := Claim7.holds Tryz.pinned (.plain (OpenSpec.upto sequentPartsSpec)) sequentPartsUptoCard

/-- THE SECOND FORM's CARD OF 'lyceumlaw19.SequentWider'. -/
def sequentWiderUptoCard : Claim7 := { stood := { row := sequentWiderUptoRow, standIns := [], harness := (true, "b471034c8df130895601110fe2b667648a465d0ca76da7953b73aa0b4651fdad"), looks := false }, kinds := [], alts := [], laidByText := true, laidKinds := [.data, .data, .data, .data], laidTests := true, laidLooks := .later }
def SequentWiderUptoCardSaid : Prop := Claim7.holds Tryz.pinned (.plain (OpenSpec.upto sequentWiderSpec)) sequentWiderUptoCard

/-- THE SECOND FORM's CARD OF 'lyceumlaw19.SequentPuts'. -/
def sequentPutsUptoCard : Claim7 := { stood := { row := sequentPutsUptoRow, standIns := [], harness := (true, "b471034c8df130895601110fe2b667648a465d0ca76da7953b73aa0b4651fdad"), looks := false }, kinds := [], alts := [], laidByText := true, laidKinds := [.data, .data, .data, .data], laidTests := true, laidLooks := .later }
def SequentPutsUptoCardSaid : Prop := Claim7.holds Tryz.pinned (.plain (OpenSpec.upto sequentPutsSpec)) sequentPutsUptoCard

/-- THE SECOND FORM's CARD OF 'lyceumlaw19.SequentSets'. -/
def sequentSetsUptoCard : Claim7 := { stood := { row := sequentSetsUptoRow, standIns := [], harness := (true, "b471034c8df130895601110fe2b667648a465d0ca76da7953b73aa0b4651fdad"), looks := false }, kinds := [], alts := [], laidByText := true, laidKinds := [.data, .data, .data, .data], laidTests := true, laidLooks := .later }
def SequentSetsUptoCardSaid : Prop := Claim7.holds Tryz.pinned (.plain (OpenSpec.upto sequentSetsSpec)) sequentSetsUptoCard

/-- THE SECOND FORM's CARD OF 'lyceumlaw19.SequentTurned'. -/
def sequentTurnedUptoCard : Claim7 := { stood := { row := sequentTurnedUptoRow, standIns := [], harness := (true, "b471034c8df130895601110fe2b667648a465d0ca76da7953b73aa0b4651fdad"), looks := false }, kinds := [], alts := [], laidByText := true, laidKinds := [.data, .data, .data, .data], laidTests := true, laidLooks := .later }
def SequentTurnedUptoCardSaid : Prop := Claim7.holds Tryz.pinned (.plain (OpenSpec.upto sequentTurnedSpec)) sequentTurnedUptoCard

/-- THE SECOND FORM's CARD OF 'lyceumlaw19.SequentApplies'. -/
def sequentAppliesUptoCard : Claim7 := { stood := { row := sequentAppliesUptoRow, standIns := [], harness := (true, "b471034c8df130895601110fe2b667648a465d0ca76da7953b73aa0b4651fdad"), looks := false }, kinds := [], alts := [], laidByText := true, laidKinds := [.data, .data, .data, .data], laidTests := true, laidLooks := .later }
def SequentAppliesUptoCardSaid : Prop := Claim7.holds Tryz.pinned (.plain (OpenSpec.upto sequentAppliesSpec)) sequentAppliesUptoCard

/-- THE SECOND FORM's CARD OF 'lyceumlaw19.SequentBacks'. -/
def sequentBacksUptoCard : Claim7 := { stood := { row := sequentBacksUptoRow, standIns := [], harness := (true, "b471034c8df130895601110fe2b667648a465d0ca76da7953b73aa0b4651fdad"), looks := false }, kinds := [], alts := [], laidByText := true, laidKinds := [.data, .data, .data, .data], laidTests := true, laidLooks := .later }
def SequentBacksUptoCardSaid : Prop := Claim7.holds Tryz.pinned (.plain (OpenSpec.upto sequentBacksSpec)) sequentBacksUptoCard

/-- THE SECOND FORM's CARD OF 'lyceumlaw19.SequentWrong'. -/
def sequentWrongUptoCard : Claim7 := { stood := { row := sequentWrongUptoRow, standIns := [], harness := (true, "b471034c8df130895601110fe2b667648a465d0ca76da7953b73aa0b4651fdad"), looks := false }, kinds := [], alts := [], laidByText := true, laidKinds := [.data, .data, .data, .data], laidTests := true, laidLooks := .later }
def SequentWrongUptoCardSaid : Prop := Claim7.holds Tryz.pinned (.plain (OpenSpec.upto sequentWrongSpec)) sequentWrongUptoCard

/-- THE SECOND FORM's CARD OF 'lyceumlaw19.SequentSmall'. -/
def sequentSmallUptoCard : Claim7 := { stood := { row := sequentSmallUptoRow, standIns := [], harness := (true, "b471034c8df130895601110fe2b667648a465d0ca76da7953b73aa0b4651fdad"), looks := false }, kinds := [], alts := [], laidByText := true, laidKinds := [.data, .data, .data, .data], laidTests := true, laidLooks := .later }
def SequentSmallUptoCardSaid : Prop := Claim7.holds Tryz.pinned (.plain (OpenSpec.upto sequentSmallSpec)) sequentSmallUptoCard

/-- THE SECOND FORM's CARD OF 'lyceumlaw19.SequentSound'. -/
def sequentSoundUptoCard : Claim7 := { stood := { row := sequentSoundUptoRow, standIns := [], harness := (true, "b471034c8df130895601110fe2b667648a465d0ca76da7953b73aa0b4651fdad"), looks := false }, kinds := [], alts := [], laidByText := true, laidKinds := [.data, .data, .data, .data], laidTests := true, laidLooks := .later }
def SequentSoundUptoCardSaid : Prop := Claim7.holds Tryz.pinned (.plain (OpenSpec.upto sequentSoundSpec)) sequentSoundUptoCard
end Rows
end Go.Proofs.YtckafgnkmnichaaGreatDoor
