/-
  DERIVED. GIVEN WITH THE SEED: THE CARDS: each row of YtknaeibenggbmaaGreatDoorRows.lean that lists a variable, with what it lists TIED to the program's text (the seventh form; the later family's looks); each row that meets fmt, with fmt's text TOLD by the authors' own Lean function (tested against real Go, not proved from fmt's source: count such statements apart). THE CARD IS WHAT COUNTS. Prove the row's statement (the work); the ties are given (YtknaeibenggbmaaGreatDoorTie.lean); close each card by the builder's one call (the guide's Derived/Test/ToyasCard.lean, 'card_holds'). Laid BY PROGRAM, IN A SANDBOX (cutbox-door.mjs). By AI agents, Wed Nov 11 2026. No macro, syntax, notation, axiom, sorry.
-/
import Derived.Test.YtknaeibenggbmaaGreatDoorRows
import GoSem.ClaimSeven
namespace Go.Proofs.YtknaeibenggbmaaGreatDoor
namespace Rows

/-- THE TIED CARD OF 'lyceumlaw03.SubstPuts'. -/
def substPutsCard : Claim7 := { stood := { row := substPutsRow, standIns := [], harness := (true, "92ffecb5c9848b7f2588cd0fd505a2f953a544da924043fcc80be4bcd12f8524"), looks := false }, kinds := [], alts := [], laidByText := true, laidKinds := [.data, .data, .data, .data], laidTests := true, laidLooks := .later }
def SubstPutsCardSaid : Prop := Claim7.holds Tryz.pinned (.plain (OpenSpec.ofChange substPutsSpec)) substPutsCard

/-- THE TIED CARD OF 'lyceumlaw03.SubstAlphas'. -/
def substAlphasCard : Claim7 := { stood := { row := substAlphasRow, standIns := [], harness := (true, "92ffecb5c9848b7f2588cd0fd505a2f953a544da924043fcc80be4bcd12f8524"), looks := false }, kinds := [], alts := [], laidByText := true, laidKinds := [.data, .data, .data, .data], laidTests := true, laidLooks := .later }
def SubstAlphasCardSaid : Prop := Claim7.holds Tryz.pinned (.plain (OpenSpec.ofChange substAlphasSpec)) substAlphasCard

/-- THE TIED CARD OF 'lyceumlaw03.SubstNothing'. -/
def substNothingCard : Claim7 := { stood := { row := substNothingRow, standIns := [], harness := (true, "92ffecb5c9848b7f2588cd0fd505a2f953a544da924043fcc80be4bcd12f8524"), looks := false }, kinds := [], alts := [], laidByText := true, laidKinds := [.data, .data, .data, .data], laidTests := true, laidLooks := .later }
def SubstNothingCardSaid : Prop := Claim7.holds Tryz.pinned (.plain (OpenSpec.ofChange substNothingSpec)) substNothingCard

/-- THE TIED CARD OF 'lyceumlaw03.SubstStays'. -/
def substStaysCard : Claim7 := { stood := { row := substStaysRow, standIns := [], harness := (true, "92ffecb5c9848b7f2588cd0fd505a2f953a544da924043fcc80be4bcd12f8524"), looks := false }, kinds := [], alts := [], laidByText := true, laidKinds := [.data, .data, .data, .data], laidTests := true, laidLooks := .later }
def SubstStaysCardSaid : Prop := Claim7.holds Tryz.pinned (.plain (OpenSpec.ofChange substStaysSpec)) substStaysCard

/-- THE TIED CARD OF 'lyceumlaw03.SubstNormals'. -/
def substNormalsCard : Claim7 := { stood := { row := substNormalsRow, standIns := [], harness := (true, "92ffecb5c9848b7f2588cd0fd505a2f953a544da924043fcc80be4bcd12f8524"), looks := false }, kinds := [], alts := [], laidByText := true, laidKinds := [.data, .data, .data, .data], laidTests := true, laidLooks := .later }
def SubstNormalsCardSaid : Prop := Claim7.holds Tryz.pinned (.plain (OpenSpec.ofChange substNormalsSpec)) substNormalsCard

/-- THE TIED CARD OF 'lyceumlaw03.SubstRenames'. -/
def substRenamesCard : Claim7 := { stood := { row := substRenamesRow, standIns := [], harness := (true, "92ffecb5c9848b7f2588cd0fd505a2f953a544da924043fcc80be4bcd12f8524"), looks := false }, kinds := [], alts := [], laidByText := true, laidKinds := [.data, .data, .data, .data], laidTests := true, laidLooks := .later }
def SubstRenamesCardSaid : Prop := Claim7.holds Tryz.pinned (.plain (OpenSpec.ofChange substRenamesSpec)) substRenamesCard

/-- THE TIED CARD OF 'lyceumlaw03.SubstWrong'. -/
def substWrongCard : Claim7 := { stood := { row := substWrongRow, standIns := [], harness := (true, "92ffecb5c9848b7f2588cd0fd505a2f953a544da924043fcc80be4bcd12f8524"), looks := false }, kinds := [], alts := [], laidByText := true, laidKinds := [.data, .data, .data, .data], laidTests := true, laidLooks := .later }
def SubstWrongCardSaid : Prop := Claim7.holds Tryz.pinned (.plain (OpenSpec.ofChange substWrongSpec)) substWrongCard

/-- THE TIED CARD OF 'lyceumlaw03.SubstFrees'. -/
def substFreesCard : Claim7 := { stood := { row := substFreesRow, standIns := [], harness := (true, "92ffecb5c9848b7f2588cd0fd505a2f953a544da924043fcc80be4bcd12f8524"), looks := false }, kinds := [], alts := [], laidByText := true, laidKinds := [.data, .data, .data, .data], laidTests := true, laidLooks := .later }
def SubstFreesCardSaid : Prop := Claim7.holds Tryz.pinned (.plain (OpenSpec.ofChange substFreesSpec)) substFreesCard

/-- THE TIED CARD OF 'lyceumlaw03.SubstTerms'. -/
def substTermsCard : Claim7 := { stood := { row := substTermsRow, standIns := [], harness := (true, "92ffecb5c9848b7f2588cd0fd505a2f953a544da924043fcc80be4bcd12f8524"), looks := false }, kinds := [], alts := [], laidByText := true, laidKinds := [.data, .data, .data, .data], laidTests := true, laidLooks := .later }
def SubstTermsCardSaid : Prop := Claim7.holds Tryz.pinned (.plain (OpenSpec.ofChange substTermsSpec)) substTermsCard

/-- THE TIED CARD OF 'lyceumlaw03.SubstLemma'. -/
def substLemmaCard : Claim7 := { stood := { row := substLemmaRow, standIns := [], harness := (true, "92ffecb5c9848b7f2588cd0fd505a2f953a544da924043fcc80be4bcd12f8524"), looks := false }, kinds := [], alts := [], laidByText := true, laidKinds := [.data, .data, .data, .data], laidTests := true, laidLooks := .later }
def SubstLemmaCardSaid : Prop := Claim7.holds Tryz.pinned (.plain (OpenSpec.ofChange substLemmaSpec)) substLemmaCard

/-- THE TIED CARD OF 'lyceumlaw03.SubstAsks'. -/
def substAsksCard : Claim7 := { stood := { row := substAsksRow, standIns := [], harness := (true, "92ffecb5c9848b7f2588cd0fd505a2f953a544da924043fcc80be4bcd12f8524"), looks := false }, kinds := [], alts := [], laidByText := true, laidKinds := [.data, .data, .data, .data], laidTests := true, laidLooks := .later }
def SubstAsksCardSaid : Prop := Claim7.holds Tryz.pinned (.plain (OpenSpec.ofChange substAsksSpec)) substAsksCard

/-- THE TIED CARD OF 'lyceumlaw03.SubstSmall'. -/
def substSmallCard : Claim7 := { stood := { row := substSmallRow, standIns := [], harness := (true, "92ffecb5c9848b7f2588cd0fd505a2f953a544da924043fcc80be4bcd12f8524"), looks := false }, kinds := [], alts := [], laidByText := true, laidKinds := [.data, .data, .data, .data], laidTests := true, laidLooks := .later }
def SubstSmallCardSaid : Prop := Claim7.holds Tryz.pinned (.plain (OpenSpec.ofChange substSmallSpec)) substSmallCard

/-- THE SECOND FORM's CARD OF 'lyceumlaw03.SubstPuts'. -/
def substPutsUptoCard : Claim7 := { stood := { row := substPutsUptoRow, standIns := [], harness := (true, "92ffecb5c9848b7f2588cd0fd505a2f953a544da924043fcc80be4bcd12f8524"), looks := false }, kinds := [], alts := [], laidByText := true, laidKinds := [.data, .data, .data, .data], laidTests := true, laidLooks := .later }
def SubstPutsUptoCardSaid : Prop := Claim7.holds Tryz.pinned (.plain (OpenSpec.upto substPutsSpec)) substPutsUptoCard

/-- THE SECOND FORM's CARD OF 'lyceumlaw03.SubstAlphas'. -/
def substAlphasUptoCard : Claim7 := { stood := { row := substAlphasUptoRow, standIns := [], harness := (true, "92ffecb5c9848b7f2588cd0fd505a2f953a544da924043fcc80be4bcd12f8524"), looks := false }, kinds := [], alts := [], laidByText := true, laidKinds := [.data, .data, .data, .data], laidTests := true, laidLooks := .later }
def SubstAlphasUptoCardSaid : Prop := Claim7.holds Tryz.pinned (.plain (OpenSpec.upto substAlphasSpec)) substAlphasUptoCard

/-- THE SECOND FORM's CARD OF 'lyceumlaw03.SubstNothing'. -/
def substNothingUptoCard : Claim7 := { stood := { row := substNothingUptoRow, standIns := [], harness := (true, "92ffecb5c9848b7f2588cd0fd505a2f953a544da924043fcc80be4bcd12f8524"), looks := false }, kinds := [], alts := [], laidByText := true, laidKinds := [.data, .data, .data, .data], laidTests := true, laidLooks := .later }
def SubstNothingUptoCardSaid : Prop := Claim7.holds Tryz.pinned (.plain (OpenSpec.upto substNothingSpec)) substNothingUptoCard

/-- THE SECOND FORM's CARD OF 'lyceumlaw03.SubstStays'. -/
def substStaysUptoCard : Claim7 := { stood := { row := substStaysUptoRow, standIns := [], harness := (true, "92ffecb5c9848b7f2588cd0fd505a2f953a544da924043fcc80be4bcd12f8524"), looks := false }, kinds := [], alts := [], laidByText := true, laidKinds := [.data, .data, .data, .data], laidTests := true, laidLooks := .later }
def SubstStaysUptoCardSaid : Prop := Claim7.holds Tryz.pinned (.plain (OpenSpec.upto substStaysSpec)) substStaysUptoCard

/-- THE SECOND FORM's CARD OF 'lyceumlaw03.SubstNormals'. -/
def substNormalsUptoCard : Claim7 := { stood := { row := substNormalsUptoRow, standIns := [], harness := (true, "92ffecb5c9848b7f2588cd0fd505a2f953a544da924043fcc80be4bcd12f8524"), looks := false }, kinds := [], alts := [], laidByText := true, laidKinds := [.data, .data, .data, .data], laidTests := true, laidLooks := .later }
def SubstNormalsUptoCardSaid : Prop := Claim7.holds Tryz.pinned (.plain (OpenSpec.upto substNormalsSpec)) substNormalsUptoCard

/-- THE SECOND FORM's CARD OF 'lyceumlaw03.SubstRenames'. -/
def substRenamesUptoCard : Claim7 := { stood := { row := substRenamesUptoRow, standIns := [], harness := (true, "92ffecb5c9848b7f2588cd0fd505a2f953a544da924043fcc80be4bcd12f8524"), looks := false }, kinds := [], alts := [], laidByText := true, laidKinds := [.data, .data, .data, .data], laidTests := true, laidLooks := .later }
def SubstRenamesUptoCardSaid : Prop := Claim7.holds Tryz.pinned (.plain (OpenSpec.upto substRenamesSpec)) substRenamesUptoCard

/-- THE SECOND FORM's CARD OF 'lyceumlaw03.SubstWrong'. -/
def substWrongUptoCard : Claim7 := { stood := { row := substWrongUptoRow, standIns := [], harness := (true, "92ffecb5c9848b7f2588cd0fd505a2f953a544da924043fcc80be4bcd12f8524"), looks := false }, kinds := [], alts := [], laidByText := true, laidKinds := [.data, .data, .data, .data], laidTests := true, laidLooks := .later }
def SubstWrongUptoCardSaid : Prop := Claim7.holds Tryz.pinned (.plain (OpenSpec.upto substWrongSpec)) substWrongUptoCard

/-- THE SECOND FORM's CARD OF 'lyceumlaw03.SubstFrees'. -/
def substFreesUptoCard : Claim7 := { stood := { row := substFreesUptoRow, standIns := [], harness := (true, "92ffecb5c9848b7f2588cd0fd505a2f953a544da924043fcc80be4bcd12f8524"), looks := false }, kinds := [], alts := [], laidByText := true, laidKinds := [.data, .data, .data, .data], laidTests := true, laidLooks := .later }
def SubstFreesUptoCardSaid : Prop := Claim7.holds Tryz.pinned (.plain (OpenSpec.upto substFreesSpec)) substFreesUptoCard

/-- THE SECOND FORM's CARD OF 'lyceumlaw03.SubstTerms'. -/
def substTermsUptoCard : Claim7 := { stood := { row := substTermsUptoRow, standIns := [], harness := (true, "92ffecb5c9848b7f2588cd0fd505a2f953a544da924043fcc80be4bcd12f8524"), looks := false }, kinds := [], alts := [], laidByText := true, laidKinds := [.data, .data, .data, .data], laidTests := true, laidLooks := .later }
def SubstTermsUptoCardSaid : Prop := Claim7.holds Tryz.pinned (.plain (OpenSpec.upto substTermsSpec)) substTermsUptoCard

/-- THE SECOND FORM's CARD OF 'lyceumlaw03.SubstLemma'. -/
def substLemmaUptoCard : Claim7 := { stood := { row := substLemmaUptoRow, standIns := [], harness := (true, "92ffecb5c9848b7f2588cd0fd505a2f953a544da924043fcc80be4bcd12f8524"), looks := false }, kinds := [], alts := [], laidByText := true, laidKinds := [.data, .data, .data, .data], laidTests := true, laidLooks := .later }
def SubstLemmaUptoCardSaid : Prop := Claim7.holds Tryz.pinned (.plain (OpenSpec.upto substLemmaSpec)) substLemmaUptoCard

/-- THE SECOND FORM's CARD OF 'lyceumlaw03.SubstAsks'. -/
def substAsksUptoCard : Claim7 := { stood := { row := substAsksUptoRow, standIns := [], harness := (true, "92ffecb5c9848b7f2588cd0fd505a2f953a544da924043fcc80be4bcd12f8524"), looks := false }, kinds := [], alts := [], laidByText := true, laidKinds := [.data, .data, .data, .data], laidTests := true, laidLooks := .later }
def SubstAsksUptoCardSaid : Prop := Claim7.holds Tryz.pinned (.plain (OpenSpec.upto substAsksSpec)) substAsksUptoCard

/-- THE SECOND FORM's CARD OF 'lyceumlaw03.SubstSmall'. -/
def substSmallUptoCard : Claim7 := { stood := { row := substSmallUptoRow, standIns := [], harness := (true, "92ffecb5c9848b7f2588cd0fd505a2f953a544da924043fcc80be4bcd12f8524"), looks := false }, kinds := [], alts := [], laidByText := true, laidKinds := [.data, .data, .data, .data], laidTests := true, laidLooks := .later }
def SubstSmallUptoCardSaid : Prop := Claim7.holds Tryz.pinned (.plain (OpenSpec.upto substSmallSpec)) substSmallUptoCard
end Rows
end Go.Proofs.YtknaeibenggbmaaGreatDoor
