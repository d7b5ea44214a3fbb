/-
  DERIVED. GIVEN WITH THE SEED: THE CARDS: each row of YteigofaccjaobaaGreatDoorRows.lean that lists a variable, with what it lists TIED to the program's text (the seventh form; the later family's looks); each row that meets fmt, with fmt's text TOLD by the authors' own Lean function (tested against real Go, not proved from fmt's source: count such statements apart). THE CARD IS WHAT COUNTS. Prove the row's statement (the work); the ties are given (YteigofaccjaobaaGreatDoorTie.lean); close each card by the builder's one call (the guide's Derived/Test/ToyasCard.lean, 'card_holds'). Laid BY PROGRAM, IN A SANDBOX (cutbox-door.mjs). By AI agents, Wed Nov 11 2026. No macro, syntax, notation, axiom, sorry.
-/
import Derived.Test.YteigofaccjaobaaGreatDoorRows
import GoSem.ClaimSeven
namespace Go.Proofs.YteigofaccjaobaaGreatDoor
namespace Rows

/-- THE TIED CARD OF 'almonerlaw18.VoterNumbers'. -/
def voterNumbersCard : Claim7 := { stood := { row := voterNumbersRow, standIns := [], harness := (true, "a6c97ad14e28c544ce9b6d57bb1804a36edf76a5403f182f595115229ca8cea4"), looks := true }, kinds := [], alts := [], laidByText := true, laidKinds := [.sentinel, .sentinel, .sentinel, .sentinel, .sentinel, .sentinel, .sentinel, .sentinel, .sentinel], laidTests := true, laidLooks := .later }
def VoterNumbersCardSaid : Prop := Claim7.holds Tryz.pinned (.plain (OpenSpec.ofChange voterNumbersSpec)) voterNumbersCard

/-- THE TIED CARD OF 'almonerlaw18.VoterLost'. -/
def voterLostCard : Claim7 := { stood := { row := voterLostRow, standIns := [], harness := (true, "a6c97ad14e28c544ce9b6d57bb1804a36edf76a5403f182f595115229ca8cea4"), looks := true }, kinds := [], alts := [], laidByText := true, laidKinds := [.sentinel, .sentinel, .sentinel, .sentinel, .sentinel, .sentinel, .sentinel, .sentinel, .sentinel], laidTests := true, laidLooks := .later }
def VoterLostCardSaid : Prop := Claim7.holds Tryz.pinned (.plain (OpenSpec.ofChange voterLostSpec)) voterLostCard

/-- THE TIED CARD OF 'almonerlaw18.VoterPlays'. -/
def voterPlaysCard : Claim7 := { stood := { row := voterPlaysRow, standIns := [], harness := (true, "a6c97ad14e28c544ce9b6d57bb1804a36edf76a5403f182f595115229ca8cea4"), looks := true }, kinds := [], alts := [], laidByText := true, laidKinds := [.sentinel, .sentinel, .sentinel, .sentinel, .sentinel, .sentinel, .sentinel, .sentinel, .sentinel, .sentinel, .sentinel, .sentinel, .sentinel, .sentinel, .sentinel, .sentinel], laidTests := true, laidLooks := .later }
def VoterPlaysCardSaid : Prop := Claim7.holds Tryz.pinned (.plain (OpenSpec.ofChange voterPlaysSpec)) voterPlaysCard

/-- THE TIED CARD OF 'almonerlaw19.RoundAgrees'. -/
def roundAgreesCard : Claim7 := { stood := { row := roundAgreesRow, standIns := [], harness := (true, "a6c97ad14e28c544ce9b6d57bb1804a36edf76a5403f182f595115229ca8cea4"), looks := true }, kinds := [], alts := [], laidByText := true, laidKinds := [.sentinel, .sentinel, .sentinel, .sentinel, .sentinel, .sentinel, .sentinel, .sentinel, .sentinel], laidTests := true, laidLooks := .later }
def RoundAgreesCardSaid : Prop := Claim7.holds Tryz.pinned (.plain (OpenSpec.ofChange roundAgreesSpec)) roundAgreesCard

/-- THE SECOND FORM's CARD OF 'almonerlaw18.VoterNumbers'. -/
def voterNumbersUptoCard : Claim7 := { stood := { row := voterNumbersUptoRow, standIns := [], harness := (true, "a6c97ad14e28c544ce9b6d57bb1804a36edf76a5403f182f595115229ca8cea4"), looks := true }, kinds := [], alts := [], laidByText := true, laidKinds := [.sentinel, .sentinel, .sentinel, .sentinel, .sentinel, .sentinel, .sentinel, .sentinel, .sentinel], laidTests := true, laidLooks := .later }
def VoterNumbersUptoCardSaid : Prop := Claim7.holds Tryz.pinned (.plain (OpenSpec.upto voterNumbersSpec)) voterNumbersUptoCard

/-- THE SECOND FORM's CARD OF 'almonerlaw18.VoterLost'. -/
def voterLostUptoCard : Claim7 := { stood := { row := voterLostUptoRow, standIns := [], harness := (true, "a6c97ad14e28c544ce9b6d57bb1804a36edf76a5403f182f595115229ca8cea4"), looks := true }, kinds := [], alts := [], laidByText := true, laidKinds := [.sentinel, .sentinel, .sentinel, .sentinel, .sentinel, .sentinel, .sentinel, .sentinel, .sentinel], laidTests := true, laidLooks := .later }
def VoterLostUptoCardSaid : Prop := Claim7.holds Tryz.pinned (.plain (OpenSpec.upto voterLostSpec)) voterLostUptoCard

/-- THE SECOND FORM's CARD OF 'almonerlaw18.VoterPlays'. -/
def voterPlaysUptoCard : Claim7 := { stood := { row := voterPlaysUptoRow, standIns := [], harness := (true, "a6c97ad14e28c544ce9b6d57bb1804a36edf76a5403f182f595115229ca8cea4"), looks := true }, kinds := [], alts := [], laidByText := true, laidKinds := [.sentinel, .sentinel, .sentinel, .sentinel, .sentinel, .sentinel, .sentinel, .sentinel, .sentinel, .sentinel, .sentinel, .sentinel, .sentinel, .sentinel, .sentinel, .sentinel], laidTests := true, laidLooks := .later }
def VoterPlaysUptoCardSaid : Prop := Claim7.holds Tryz.pinned (.plain (OpenSpec.upto voterPlaysSpec)) voterPlaysUptoCard

/-- THE SECOND FORM's CARD OF 'almonerlaw19.RoundAgrees'. -/
def roundAgreesUptoCard : Claim7 := { stood := { row := roundAgreesUptoRow, standIns := [], harness := (true, "a6c97ad14e28c544ce9b6d57bb1804a36edf76a5403f182f595115229ca8cea4"), looks := true }, kinds := [], alts := [], laidByText := true, laidKinds := [.sentinel, .sentinel, .sentinel, .sentinel, .sentinel, .sentinel, .sentinel, .sentinel, .sentinel], laidTests := true, laidLooks := .later }
def RoundAgreesUptoCardSaid : Prop := Claim7.holds Tryz.pinned (.plain (OpenSpec.upto roundAgreesSpec)) roundAgreesUptoCard
end Rows
end Go.Proofs.YteigofaccjaobaaGreatDoor
