/-
  DERIVED. GIVEN WITH THE SEED: THE CARDS: each row of YtabhgbojkjcfjaaGreatDoorRows.lean that lists a variable, with what it lists TIED to the program's text (the seventh form; the later family's looks); each row that meets fmt, with fmt's text TOLD by the authors' own Lean function (tested against real Go, not proved from fmt's source: count such statements apart). THE CARD IS WHAT COUNTS. Prove the row's statement (the work); the ties are given (YtabhgbojkjcfjaaGreatDoorTie.lean); close each card by the builder's one call (the guide's Derived/Test/ToyasCard.lean, 'card_holds'). Laid BY PROGRAM, IN A SANDBOX (cutbox-door.mjs). By AI agents, Wed Nov 11 2026. No macro, syntax, notation, axiom, sorry.
-/
import Derived.Test.YtabhgbojkjcfjaaGreatDoorRows
import GoSem.ClaimSeven
namespace Go.Proofs.YtabhgbojkjcfjaaGreatDoor
namespace Rows

/-- THE TIED CARD OF 'lyceumlaw19.SequentTells'. -/
def sequentTellsCard : Claim7 := { stood := { row := sequentTellsRow, standIns := [], harness := (true, "6fb7fe1a55759a6f22110ff40f54f6b5ed7e600abbb847e2b01135d8833e9eb9"), looks := false }, kinds := [], alts := [], laidByText := true, laidKinds := [.data, .data, .data, .data], laidTests := true, laidLooks := .later }
def SequentTellsCardSaid : Prop := Claim7.holds Tryz.pinned (.plain (OpenSpec.ofChange sequentTellsSpec)) sequentTellsCard

/-- THE TIED CARD OF 'lyceumlaw19.SequentSets'. -/
def sequentSetsCard : Claim7 := { stood := { row := sequentSetsRow, standIns := [], harness := (true, "6fb7fe1a55759a6f22110ff40f54f6b5ed7e600abbb847e2b01135d8833e9eb9"), looks := false }, kinds := [], alts := [], laidByText := true, laidKinds := [.data, .data, .data, .data], laidTests := true, laidLooks := .later }
def SequentSetsCardSaid : Prop := Claim7.holds Tryz.pinned (.plain (OpenSpec.ofChange sequentSetsSpec)) sequentSetsCard

/-- THE TIED CARD OF 'lyceumlaw19.SequentApplies'. -/
def sequentAppliesCard : Claim7 := { stood := { row := sequentAppliesRow, standIns := [], harness := (true, "6fb7fe1a55759a6f22110ff40f54f6b5ed7e600abbb847e2b01135d8833e9eb9"), looks := false }, kinds := [], alts := [], laidByText := true, laidKinds := [.data, .data, .data, .data], laidTests := true, laidLooks := .later }
def SequentAppliesCardSaid : Prop := Claim7.holds Tryz.pinned (.plain (OpenSpec.ofChange sequentAppliesSpec)) sequentAppliesCard

/-- THE TIED CARD OF 'lyceumlaw19.SequentSmall'. -/
def sequentSmallCard : Claim7 := { stood := { row := sequentSmallRow, standIns := [], harness := (true, "6fb7fe1a55759a6f22110ff40f54f6b5ed7e600abbb847e2b01135d8833e9eb9"), looks := false }, kinds := [], alts := [], laidByText := true, laidKinds := [.data, .data, .data, .data], laidTests := true, laidLooks := .later }
def SequentSmallCardSaid : Prop := Claim7.holds Tryz.pinned (.plain (OpenSpec.ofChange sequentSmallSpec)) sequentSmallCard

/-- THE TIED CARD OF 'lyceumlaw19.SequentSound'. -/
def sequentSoundCard : Claim7 := { stood := { row := sequentSoundRow, standIns := [], harness := (true, "6fb7fe1a55759a6f22110ff40f54f6b5ed7e600abbb847e2b01135d8833e9eb9"), looks := false }, kinds := [], alts := [], laidByText := true, laidKinds := [.data, .data, .data, .data], laidTests := true, laidLooks := .later }
def SequentSoundCardSaid : Prop := Claim7.holds Tryz.pinned (.plain (OpenSpec.ofChange sequentSoundSpec)) sequentSoundCard

/-- THE SECOND FORM's CARD OF 'lyceumlaw19.SequentTells'. -/
def sequentTellsUptoCard : Claim7 := { stood := { row := sequentTellsUptoRow, standIns := [], harness := (true, "6fb7fe1a55759a6f22110ff40f54f6b5ed7e600abbb847e2b01135d8833e9eb9"), looks := false }, kinds := [], alts := [], laidByText := true, laidKinds := [.data, .data, .data, .data], laidTests := true, laidLooks := .later }
def SequentTellsUptoCardSaid : Prop := Claim7.holds Tryz.pinned (.plain (OpenSpec.upto sequentTellsSpec)) sequentTellsUptoCard

/-- THE SECOND FORM's CARD OF 'lyceumlaw19.SequentSets'. -/
def sequentSetsUptoCard : Claim7 := { stood := { row := sequentSetsUptoRow, standIns := [], harness := (true, "6fb7fe1a55759a6f22110ff40f54f6b5ed7e600abbb847e2b01135d8833e9eb9"), looks := false }, kinds := [], alts := [], laidByText := true, laidKinds := [.data, .data, .data, .data], laidTests := true, laidLooks := .later }
def SequentSetsUptoCardSaid : Prop := Claim7.holds Tryz.pinned (.plain (OpenSpec.upto sequentSetsSpec)) sequentSetsUptoCard

/-- THE SECOND FORM's CARD OF 'lyceumlaw19.SequentApplies'. -/
def sequentAppliesUptoCard : Claim7 := { stood := { row := sequentAppliesUptoRow, standIns := [], harness := (true, "6fb7fe1a55759a6f22110ff40f54f6b5ed7e600abbb847e2b01135d8833e9eb9"), looks := false }, kinds := [], alts := [], laidByText := true, laidKinds := [.data, .data, .data, .data], laidTests := true, laidLooks := .later }
def SequentAppliesUptoCardSaid : Prop := Claim7.holds Tryz.pinned (.plain (OpenSpec.upto sequentAppliesSpec)) sequentAppliesUptoCard

/-- THE SECOND FORM's CARD OF 'lyceumlaw19.SequentSmall'. -/
def sequentSmallUptoCard : Claim7 := { stood := { row := sequentSmallUptoRow, standIns := [], harness := (true, "6fb7fe1a55759a6f22110ff40f54f6b5ed7e600abbb847e2b01135d8833e9eb9"), looks := false }, kinds := [], alts := [], laidByText := true, laidKinds := [.data, .data, .data, .data], laidTests := true, laidLooks := .later }
def SequentSmallUptoCardSaid : Prop := Claim7.holds Tryz.pinned (.plain (OpenSpec.upto sequentSmallSpec)) sequentSmallUptoCard

/-- THE SECOND FORM's CARD OF 'lyceumlaw19.SequentSound'. -/
def sequentSoundUptoCard : Claim7 := { stood := { row := sequentSoundUptoRow, standIns := [], harness := (true, "6fb7fe1a55759a6f22110ff40f54f6b5ed7e600abbb847e2b01135d8833e9eb9"), looks := false }, kinds := [], alts := [], laidByText := true, laidKinds := [.data, .data, .data, .data], laidTests := true, laidLooks := .later }
def SequentSoundUptoCardSaid : Prop := Claim7.holds Tryz.pinned (.plain (OpenSpec.upto sequentSoundSpec)) sequentSoundUptoCard
end Rows
end Go.Proofs.YtabhgbojkjcfjaaGreatDoor
