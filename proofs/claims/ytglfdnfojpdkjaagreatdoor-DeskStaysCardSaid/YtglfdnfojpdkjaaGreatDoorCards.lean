/-
  DERIVED. GIVEN WITH THE SEED: THE CARDS: each row of YtglfdnfojpdkjaaGreatDoorRows.lean that lists a variable, with what it lists TIED to the program's text (the seventh form; the later family's looks); each row that meets fmt, with fmt's text TOLD by the authors' own Lean function (tested against real Go, not proved from fmt's source: count such statements apart). THE CARD IS WHAT COUNTS. Prove the row's statement (the work); the ties are given (YtglfdnfojpdkjaaGreatDoorTie.lean); close each card by the builder's one call (the guide's Derived/Test/ToyasCard.lean, 'card_holds'). Laid BY PROGRAM, IN A SANDBOX (cutbox-door.mjs). By AI agents, Wed Nov 11 2026. No macro, syntax, notation, axiom, sorry.
-/
import Derived.Test.YtglfdnfojpdkjaaGreatDoorRows
import GoSem.ClaimSeven
namespace Go.Proofs.YtglfdnfojpdkjaaGreatDoor
namespace Rows

/-- THE TIED CARD OF 'almonerlaw20.DeskAnswers'. -/
def deskAnswersCard : Claim7 := { stood := { row := deskAnswersRow, standIns := [], harness := (true, "8e474a66f82b146f595e2608ba1951c3b861f0c51fb5252f6a1442c5dad823f2"), looks := false }, kinds := [], alts := [], laidByText := true, laidKinds := [.sentinel, .sentinel, .sentinel, .sentinel, .sentinel, .sentinel, .sentinel, .sentinel], laidTests := true, laidLooks := .later }
def DeskAnswersCardSaid : Prop := Claim7.holds Tryz.pinned (.plain (OpenSpec.ofChange deskAnswersSpec)) deskAnswersCard

/-- THE TIED CARD OF 'almonerlaw20.DeskStays'. -/
def deskStaysCard : Claim7 := { stood := { row := deskStaysRow, standIns := [], harness := (true, "8e474a66f82b146f595e2608ba1951c3b861f0c51fb5252f6a1442c5dad823f2"), looks := false }, kinds := [], alts := [], laidByText := true, laidKinds := [.sentinel, .sentinel, .sentinel, .sentinel, .sentinel, .sentinel, .sentinel, .sentinel], laidTests := true, laidLooks := .later }
def DeskStaysCardSaid : Prop := Claim7.holds Tryz.pinned (.plain (OpenSpec.ofChange deskStaysSpec)) deskStaysCard

/-- THE SECOND FORM's CARD OF 'almonerlaw20.DeskAnswers'. -/
def deskAnswersUptoCard : Claim7 := { stood := { row := deskAnswersUptoRow, standIns := [], harness := (true, "8e474a66f82b146f595e2608ba1951c3b861f0c51fb5252f6a1442c5dad823f2"), looks := false }, kinds := [], alts := [], laidByText := true, laidKinds := [.sentinel, .sentinel, .sentinel, .sentinel, .sentinel, .sentinel, .sentinel, .sentinel], laidTests := true, laidLooks := .later }
def DeskAnswersUptoCardSaid : Prop := Claim7.holds Tryz.pinned (.plain (OpenSpec.upto deskAnswersSpec)) deskAnswersUptoCard

/-- THE SECOND FORM's CARD OF 'almonerlaw20.DeskStays'. -/
def deskStaysUptoCard : Claim7 := { stood := { row := deskStaysUptoRow, standIns := [], harness := (true, "8e474a66f82b146f595e2608ba1951c3b861f0c51fb5252f6a1442c5dad823f2"), looks := false }, kinds := [], alts := [], laidByText := true, laidKinds := [.sentinel, .sentinel, .sentinel, .sentinel, .sentinel, .sentinel, .sentinel, .sentinel], laidTests := true, laidLooks := .later }
def DeskStaysUptoCardSaid : Prop := Claim7.holds Tryz.pinned (.plain (OpenSpec.upto deskStaysSpec)) deskStaysUptoCard
end Rows
end Go.Proofs.YtglfdnfojpdkjaaGreatDoor
