/-
  DERIVED. GIVEN WITH THE SEED: THE CARDS: each row of YtdfelohjdkcpkaaGreatDoorRows.lean that lists a variable, with what it lists TIED to the program's text (the seventh form; the later family's looks); each row that meets fmt, with fmt's text TOLD by the authors' own Lean function (tested against real Go, not proved from fmt's source: count such statements apart). THE CARD IS WHAT COUNTS. Prove the row's statement (the work); the ties are given (YtdfelohjdkcpkaaGreatDoorTie.lean); close each card by the builder's one call (the guide's Derived/Test/ToyasCard.lean, 'card_holds'). Laid BY PROGRAM, IN A SANDBOX (cutbox-door.mjs). By AI agents, Wed Nov 11 2026. No macro, syntax, notation, axiom, sorry.
-/
import Derived.Test.YtdfelohjdkcpkaaGreatDoorRows
import GoSem.ClaimSeven
namespace Go.Proofs.YtdfelohjdkcpkaaGreatDoor
namespace Rows

/-- THE TIED CARD OF 'almonerlaw13.TreePlays'. -/
def treePlaysCard : Claim7 := { stood := { row := treePlaysRow, standIns := [], harness := (true, "f8c8f2b1b00c20f5e682c0b6336d440d78fdd48ab8d32fe47daf4bde000d41c0"), looks := true }, kinds := [], alts := [], laidByText := true, laidKinds := [.sentinel, .sentinel, .sentinel, .sentinel, .sentinel], laidTests := true, laidLooks := .later }
def TreePlaysCardSaid : Prop := Claim7.holds Tryz.pinned (.plain (OpenSpec.ofChange treePlaysSpec)) treePlaysCard

/-- THE TIED CARD OF 'almonerlaw20.DeskAnswers'. -/
def deskAnswersCard : Claim7 := { stood := { row := deskAnswersRow, standIns := [], harness := (true, "f8c8f2b1b00c20f5e682c0b6336d440d78fdd48ab8d32fe47daf4bde000d41c0"), looks := true }, kinds := [], alts := [], laidByText := true, laidKinds := [.sentinel, .sentinel, .sentinel, .sentinel, .sentinel, .sentinel, .sentinel, .sentinel], laidTests := true, laidLooks := .later }
def DeskAnswersCardSaid : Prop := Claim7.holds Tryz.pinned (.plain (OpenSpec.ofChange deskAnswersSpec)) deskAnswersCard

/-- THE TIED CARD OF 'almonerlaw16.HostOrders'. -/
def hostOrdersCard : Claim7 := { stood := { row := hostOrdersRow, standIns := [], harness := (true, "f8c8f2b1b00c20f5e682c0b6336d440d78fdd48ab8d32fe47daf4bde000d41c0"), looks := true }, kinds := [], alts := [], laidByText := true, laidKinds := [.sentinel, .sentinel, .sentinel, .sentinel, .sentinel, .sentinel, .sentinel, .sentinel], laidTests := true, laidLooks := .later }
def HostOrdersCardSaid : Prop := Claim7.holds Tryz.pinned (.plain (OpenSpec.ofChange hostOrdersSpec)) hostOrdersCard

/-- THE TIED CARD OF 'almonerlaw16.HostAlone'. -/
def hostAloneCard : Claim7 := { stood := { row := hostAloneRow, standIns := [], harness := (true, "f8c8f2b1b00c20f5e682c0b6336d440d78fdd48ab8d32fe47daf4bde000d41c0"), looks := true }, kinds := [], alts := [], laidByText := true, laidKinds := [.sentinel, .sentinel, .sentinel, .sentinel, .sentinel, .sentinel, .sentinel, .sentinel], laidTests := true, laidLooks := .later }
def HostAloneCardSaid : Prop := Claim7.holds Tryz.pinned (.plain (OpenSpec.ofChange hostAloneSpec)) hostAloneCard

/-- THE TIED CARD OF 'almonerlaw16.HostSupplies'. -/
def hostSuppliesCard : Claim7 := { stood := { row := hostSuppliesRow, standIns := [], harness := (true, "f8c8f2b1b00c20f5e682c0b6336d440d78fdd48ab8d32fe47daf4bde000d41c0"), looks := true }, kinds := [], alts := [], laidByText := true, laidKinds := [.sentinel, .sentinel, .sentinel, .sentinel, .sentinel, .sentinel, .sentinel, .sentinel, .sentinel], laidTests := true, laidLooks := .later }
def HostSuppliesCardSaid : Prop := Claim7.holds Tryz.pinned (.plain (OpenSpec.ofChange hostSuppliesSpec)) hostSuppliesCard

/-- THE TIED CARD OF 'almonerlaw16.HostDeadlines'. -/
def hostDeadlinesCard : Claim7 := { stood := { row := hostDeadlinesRow, standIns := [], harness := (true, "f8c8f2b1b00c20f5e682c0b6336d440d78fdd48ab8d32fe47daf4bde000d41c0"), looks := true }, kinds := [], alts := [], laidByText := true, laidKinds := [.sentinel, .sentinel, .sentinel, .sentinel, .sentinel, .sentinel, .sentinel, .sentinel, .sentinel], laidTests := true, laidLooks := .later }
def HostDeadlinesCardSaid : Prop := Claim7.holds Tryz.pinned (.plain (OpenSpec.ofChange hostDeadlinesSpec)) hostDeadlinesCard

/-- THE TIED CARD OF 'almonerlaw16.HostPaths'. -/
def hostPathsCard : Claim7 := { stood := { row := hostPathsRow, standIns := [], harness := (true, "f8c8f2b1b00c20f5e682c0b6336d440d78fdd48ab8d32fe47daf4bde000d41c0"), looks := true }, kinds := [], alts := [], laidByText := true, laidKinds := [.sentinel, .sentinel, .sentinel, .sentinel, .sentinel, .sentinel, .sentinel, .sentinel, .sentinel], laidTests := true, laidLooks := .later }
def HostPathsCardSaid : Prop := Claim7.holds Tryz.pinned (.plain (OpenSpec.ofChange hostPathsSpec)) hostPathsCard

/-- THE TIED CARD OF 'almonerlaw16.HostTwins'. -/
def hostTwinsCard : Claim7 := { stood := { row := hostTwinsRow, standIns := [], harness := (true, "f8c8f2b1b00c20f5e682c0b6336d440d78fdd48ab8d32fe47daf4bde000d41c0"), looks := true }, kinds := [], alts := [], laidByText := true, laidKinds := [.sentinel, .sentinel, .sentinel, .sentinel, .sentinel, .sentinel, .sentinel, .sentinel, .sentinel], laidTests := true, laidLooks := .later }
def HostTwinsCardSaid : Prop := Claim7.holds Tryz.pinned (.plain (OpenSpec.ofChange hostTwinsSpec)) hostTwinsCard

/-- THE TIED CARD OF 'almonerlaw16.HostPlays'. -/
def hostPlaysCard : Claim7 := { stood := { row := hostPlaysRow, standIns := [], harness := (true, "f8c8f2b1b00c20f5e682c0b6336d440d78fdd48ab8d32fe47daf4bde000d41c0"), looks := true }, kinds := [], alts := [], laidByText := true, laidKinds := [.sentinel, .sentinel, .sentinel, .sentinel, .sentinel, .sentinel, .sentinel, .sentinel, .sentinel, .sentinel, .sentinel, .sentinel, .sentinel, .sentinel, .sentinel, .sentinel], laidTests := true, laidLooks := .later }
def HostPlaysCardSaid : Prop := Claim7.holds Tryz.pinned (.plain (OpenSpec.ofChange hostPlaysSpec)) hostPlaysCard

/-- THE SECOND FORM's CARD OF 'almonerlaw13.TreePlays'. -/
def treePlaysUptoCard : Claim7 := { stood := { row := treePlaysUptoRow, standIns := [], harness := (true, "f8c8f2b1b00c20f5e682c0b6336d440d78fdd48ab8d32fe47daf4bde000d41c0"), looks := true }, kinds := [], alts := [], laidByText := true, laidKinds := [.sentinel, .sentinel, .sentinel, .sentinel, .sentinel], laidTests := true, laidLooks := .later }
def TreePlaysUptoCardSaid : Prop := Claim7.holds Tryz.pinned (.plain (OpenSpec.upto treePlaysSpec)) treePlaysUptoCard

/-- THE SECOND FORM's CARD OF 'almonerlaw20.DeskAnswers'. -/
def deskAnswersUptoCard : Claim7 := { stood := { row := deskAnswersUptoRow, standIns := [], harness := (true, "f8c8f2b1b00c20f5e682c0b6336d440d78fdd48ab8d32fe47daf4bde000d41c0"), looks := true }, kinds := [], alts := [], laidByText := true, laidKinds := [.sentinel, .sentinel, .sentinel, .sentinel, .sentinel, .sentinel, .sentinel, .sentinel], laidTests := true, laidLooks := .later }
def DeskAnswersUptoCardSaid : Prop := Claim7.holds Tryz.pinned (.plain (OpenSpec.upto deskAnswersSpec)) deskAnswersUptoCard

/-- THE SECOND FORM's CARD OF 'almonerlaw16.HostOrders'. -/
def hostOrdersUptoCard : Claim7 := { stood := { row := hostOrdersUptoRow, standIns := [], harness := (true, "f8c8f2b1b00c20f5e682c0b6336d440d78fdd48ab8d32fe47daf4bde000d41c0"), looks := true }, kinds := [], alts := [], laidByText := true, laidKinds := [.sentinel, .sentinel, .sentinel, .sentinel, .sentinel, .sentinel, .sentinel, .sentinel], laidTests := true, laidLooks := .later }
def HostOrdersUptoCardSaid : Prop := Claim7.holds Tryz.pinned (.plain (OpenSpec.upto hostOrdersSpec)) hostOrdersUptoCard

/-- THE SECOND FORM's CARD OF 'almonerlaw16.HostAlone'. -/
def hostAloneUptoCard : Claim7 := { stood := { row := hostAloneUptoRow, standIns := [], harness := (true, "f8c8f2b1b00c20f5e682c0b6336d440d78fdd48ab8d32fe47daf4bde000d41c0"), looks := true }, kinds := [], alts := [], laidByText := true, laidKinds := [.sentinel, .sentinel, .sentinel, .sentinel, .sentinel, .sentinel, .sentinel, .sentinel], laidTests := true, laidLooks := .later }
def HostAloneUptoCardSaid : Prop := Claim7.holds Tryz.pinned (.plain (OpenSpec.upto hostAloneSpec)) hostAloneUptoCard

/-- THE SECOND FORM's CARD OF 'almonerlaw16.HostSupplies'. -/
def hostSuppliesUptoCard : Claim7 := { stood := { row := hostSuppliesUptoRow, standIns := [], harness := (true, "f8c8f2b1b00c20f5e682c0b6336d440d78fdd48ab8d32fe47daf4bde000d41c0"), looks := true }, kinds := [], alts := [], laidByText := true, laidKinds := [.sentinel, .sentinel, .sentinel, .sentinel, .sentinel, .sentinel, .sentinel, .sentinel, .sentinel], laidTests := true, laidLooks := .later }
def HostSuppliesUptoCardSaid : Prop := Claim7.holds Tryz.pinned (.plain (OpenSpec.upto hostSuppliesSpec)) hostSuppliesUptoCard

/-- THE SECOND FORM's CARD OF 'almonerlaw16.HostDeadlines'. -/
def hostDeadlinesUptoCard : Claim7 := { stood := { row := hostDeadlinesUptoRow, standIns := [], harness := (true, "f8c8f2b1b00c20f5e682c0b6336d440d78fdd48ab8d32fe47daf4bde000d41c0"), looks := true }, kinds := [], alts := [], laidByText := true, laidKinds := [.sentinel, .sentinel, .sentinel, .sentinel, .sentinel, .sentinel, .sentinel, .sentinel, .sentinel], laidTests := true, laidLooks := .later }
def HostDeadlinesUptoCardSaid : Prop := Claim7.holds Tryz.pinned (.plain (OpenSpec.upto hostDeadlinesSpec)) hostDeadlinesUptoCard

/-- THE SECOND FORM's CARD OF 'almonerlaw16.HostPaths'. -/
def hostPathsUptoCard : Claim7 := { stood := { row := hostPathsUptoRow, standIns := [], harness := (true, "f8c8f2b1b00c20f5e682c0b6336d440d78fdd48ab8d32fe47daf4bde000d41c0"), looks := true }, kinds := [], alts := [], laidByText := true, laidKinds := [.sentinel, .sentinel, .sentinel, .sentinel, .sentinel, .sentinel, .sentinel, .sentinel, .sentinel], laidTests := true, laidLooks := .later }
def HostPathsUptoCardSaid : Prop := Claim7.holds Tryz.pinned (.plain (OpenSpec.upto hostPathsSpec)) hostPathsUptoCard

/-- THE SECOND FORM's CARD OF 'almonerlaw16.HostTwins'. -/
def hostTwinsUptoCard : Claim7 := { stood := { row := hostTwinsUptoRow, standIns := [], harness := (true, "f8c8f2b1b00c20f5e682c0b6336d440d78fdd48ab8d32fe47daf4bde000d41c0"), looks := true }, kinds := [], alts := [], laidByText := true, laidKinds := [.sentinel, .sentinel, .sentinel, .sentinel, .sentinel, .sentinel, .sentinel, .sentinel, .sentinel], laidTests := true, laidLooks := .later }
def HostTwinsUptoCardSaid : Prop := Claim7.holds Tryz.pinned (.plain (OpenSpec.upto hostTwinsSpec)) hostTwinsUptoCard

/-- THE SECOND FORM's CARD OF 'almonerlaw16.HostPlays'. -/
def hostPlaysUptoCard : Claim7 := { stood := { row := hostPlaysUptoRow, standIns := [], harness := (true, "f8c8f2b1b00c20f5e682c0b6336d440d78fdd48ab8d32fe47daf4bde000d41c0"), looks := true }, kinds := [], alts := [], laidByText := true, laidKinds := [.sentinel, .sentinel, .sentinel, .sentinel, .sentinel, .sentinel, .sentinel, .sentinel, .sentinel, .sentinel, .sentinel, .sentinel, .sentinel, .sentinel, .sentinel, .sentinel], laidTests := true, laidLooks := .later }
def HostPlaysUptoCardSaid : Prop := Claim7.holds Tryz.pinned (.plain (OpenSpec.upto hostPlaysSpec)) hostPlaysUptoCard
end Rows
end Go.Proofs.YtdfelohjdkcpkaaGreatDoor
