/-
  DERIVED. GIVEN WITH THE SEED: THE CARDS: each row of YtblfljpmkgmjaaaDoorRows.lean that lists a variable, with what it lists TIED to the program's text (the seventh form; the later family's looks); each row that meets fmt, with fmt's text TOLD by the authors' own Lean function (tested against real Go, not proved from fmt's source: count such statements apart). THE CARD IS WHAT COUNTS. Prove the row's statement (the work); the ties are given (YtblfljpmkgmjaaaDoorTie.lean); close each card by the builder's one call (the guide's Derived/Test/ToyasCard.lean, 'card_holds'). Laid BY PROGRAM, IN A SANDBOX (cutbox-door.mjs). By AI agents, Wed Nov 11 2026. No macro, syntax, notation, axiom, sorry.
-/
import Derived.Test.YtblfljpmkgmjaaaDoorRows
import GoSem.ClaimSeven
namespace Go.Proofs.YtblfljpmkgmjaaaDoor
namespace Rows

/-- THE TIED CARD OF 'almonerlaw19.RoundNewest'. -/
def roundNewestCard : Claim7 := { stood := { row := roundNewestRow, standIns := [], harness := (true, "84ea4fbd1ca9fa1c8445f685970079243b19d21ec00a26dd522bcb2ec4b1dbd3"), looks := true }, kinds := [], alts := [], laidByText := true, laidKinds := [.sentinel, .sentinel, .sentinel, .sentinel, .sentinel], laidTests := true, laidLooks := .later }
def RoundNewestCardSaid : Prop := Claim7.holds Tryd.pinned (.plain (OpenSpec.ofChange roundNewestSpec)) roundNewestCard

/-- THE TIED CARD OF 'almonerlaw19.RoundHalves'. -/
def roundHalvesCard : Claim7 := { stood := { row := roundHalvesRow, standIns := [], harness := (true, "84ea4fbd1ca9fa1c8445f685970079243b19d21ec00a26dd522bcb2ec4b1dbd3"), looks := true }, kinds := [], alts := [], laidByText := true, laidKinds := [.sentinel, .sentinel, .sentinel, .sentinel, .sentinel], laidTests := true, laidLooks := .later }
def RoundHalvesCardSaid : Prop := Claim7.holds Tryd.pinned (.plain (OpenSpec.ofChange roundHalvesSpec)) roundHalvesCard

/-- THE TIED CARD OF 'almonerlaw19.RoundReads'. -/
def roundReadsCard : Claim7 := { stood := { row := roundReadsRow, standIns := [], harness := (true, "84ea4fbd1ca9fa1c8445f685970079243b19d21ec00a26dd522bcb2ec4b1dbd3"), looks := true }, kinds := [], alts := [], laidByText := true, laidKinds := [.sentinel, .sentinel, .sentinel, .sentinel, .sentinel], laidTests := true, laidLooks := .later }
def RoundReadsCardSaid : Prop := Claim7.holds Tryd.pinned (.plain (OpenSpec.ofChange roundReadsSpec)) roundReadsCard

/-- THE TIED CARD OF 'almonerlaw19.RoundPlays'. -/
def roundPlaysCard : Claim7 := { stood := { row := roundPlaysRow, standIns := [], harness := (true, "84ea4fbd1ca9fa1c8445f685970079243b19d21ec00a26dd522bcb2ec4b1dbd3"), looks := true }, kinds := [], alts := [], laidByText := true, laidKinds := [.sentinel, .sentinel, .sentinel, .sentinel, .sentinel, .sentinel, .sentinel, .sentinel, .sentinel, .sentinel, .sentinel, .sentinel, .sentinel, .sentinel, .sentinel, .sentinel], laidTests := true, laidLooks := .later }
def RoundPlaysCardSaid : Prop := Claim7.holds Tryd.pinned (.plain (OpenSpec.ofChange roundPlaysSpec)) roundPlaysCard

/-- THE TIED CARD OF 'almonerlaw20.DeskReplies'. -/
def deskRepliesCard : Claim7 := { stood := { row := deskRepliesRow, standIns := [], harness := (true, "84ea4fbd1ca9fa1c8445f685970079243b19d21ec00a26dd522bcb2ec4b1dbd3"), looks := true }, kinds := [], alts := [], laidByText := true, laidKinds := [.sentinel, .sentinel, .sentinel, .sentinel, .sentinel], laidTests := true, laidLooks := .later }
def DeskRepliesCardSaid : Prop := Claim7.holds Tryd.pinned (.plain (OpenSpec.ofChange deskRepliesSpec)) deskRepliesCard

/-- THE TIED CARD OF 'almonerlaw20.DeskAsks'. -/
def deskAsksCard : Claim7 := { stood := { row := deskAsksRow, standIns := [], harness := (true, "84ea4fbd1ca9fa1c8445f685970079243b19d21ec00a26dd522bcb2ec4b1dbd3"), looks := true }, kinds := [], alts := [], laidByText := true, laidKinds := [.sentinel, .sentinel, .sentinel, .sentinel, .sentinel], laidTests := true, laidLooks := .later }
def DeskAsksCardSaid : Prop := Claim7.holds Tryd.pinned (.plain (OpenSpec.ofChange deskAsksSpec)) deskAsksCard

/-- THE TIED CARD OF 'almonerlaw20.DeskSlips'. -/
def deskSlipsCard : Claim7 := { stood := { row := deskSlipsRow, standIns := [], harness := (true, "84ea4fbd1ca9fa1c8445f685970079243b19d21ec00a26dd522bcb2ec4b1dbd3"), looks := true }, kinds := [], alts := [], laidByText := true, laidKinds := [.sentinel, .sentinel, .sentinel, .sentinel, .sentinel], laidTests := true, laidLooks := .later }
def DeskSlipsCardSaid : Prop := Claim7.holds Tryd.pinned (.plain (OpenSpec.ofChange deskSlipsSpec)) deskSlipsCard

/-- THE TIED CARD OF 'almonerlaw20.DeskGets'. -/
def deskGetsCard : Claim7 := { stood := { row := deskGetsRow, standIns := [], harness := (true, "84ea4fbd1ca9fa1c8445f685970079243b19d21ec00a26dd522bcb2ec4b1dbd3"), looks := true }, kinds := [], alts := [], laidByText := true, laidKinds := [.sentinel, .sentinel, .sentinel, .sentinel, .sentinel], laidTests := true, laidLooks := .later }
def DeskGetsCardSaid : Prop := Claim7.holds Tryd.pinned (.plain (OpenSpec.ofChange deskGetsSpec)) deskGetsCard

/-- THE SECOND FORM's CARD OF 'almonerlaw19.RoundNewest'. -/
def roundNewestUptoCard : Claim7 := { stood := { row := roundNewestUptoRow, standIns := [], harness := (true, "84ea4fbd1ca9fa1c8445f685970079243b19d21ec00a26dd522bcb2ec4b1dbd3"), looks := true }, kinds := [], alts := [], laidByText := true, laidKinds := [.sentinel, .sentinel, .sentinel, .sentinel, .sentinel], laidTests := true, laidLooks := .later }
def RoundNewestUptoCardSaid : Prop := Claim7.holds Tryd.pinned (.plain (OpenSpec.upto roundNewestSpec)) roundNewestUptoCard

/-- THE SECOND FORM's CARD OF 'almonerlaw19.RoundHalves'. -/
def roundHalvesUptoCard : Claim7 := { stood := { row := roundHalvesUptoRow, standIns := [], harness := (true, "84ea4fbd1ca9fa1c8445f685970079243b19d21ec00a26dd522bcb2ec4b1dbd3"), looks := true }, kinds := [], alts := [], laidByText := true, laidKinds := [.sentinel, .sentinel, .sentinel, .sentinel, .sentinel], laidTests := true, laidLooks := .later }
def RoundHalvesUptoCardSaid : Prop := Claim7.holds Tryd.pinned (.plain (OpenSpec.upto roundHalvesSpec)) roundHalvesUptoCard

/-- THE SECOND FORM's CARD OF 'almonerlaw19.RoundReads'. -/
def roundReadsUptoCard : Claim7 := { stood := { row := roundReadsUptoRow, standIns := [], harness := (true, "84ea4fbd1ca9fa1c8445f685970079243b19d21ec00a26dd522bcb2ec4b1dbd3"), looks := true }, kinds := [], alts := [], laidByText := true, laidKinds := [.sentinel, .sentinel, .sentinel, .sentinel, .sentinel], laidTests := true, laidLooks := .later }
def RoundReadsUptoCardSaid : Prop := Claim7.holds Tryd.pinned (.plain (OpenSpec.upto roundReadsSpec)) roundReadsUptoCard

/-- THE SECOND FORM's CARD OF 'almonerlaw19.RoundPlays'. -/
def roundPlaysUptoCard : Claim7 := { stood := { row := roundPlaysUptoRow, standIns := [], harness := (true, "84ea4fbd1ca9fa1c8445f685970079243b19d21ec00a26dd522bcb2ec4b1dbd3"), looks := true }, kinds := [], alts := [], laidByText := true, laidKinds := [.sentinel, .sentinel, .sentinel, .sentinel, .sentinel, .sentinel, .sentinel, .sentinel, .sentinel, .sentinel, .sentinel, .sentinel, .sentinel, .sentinel, .sentinel, .sentinel], laidTests := true, laidLooks := .later }
def RoundPlaysUptoCardSaid : Prop := Claim7.holds Tryd.pinned (.plain (OpenSpec.upto roundPlaysSpec)) roundPlaysUptoCard

/-- THE SECOND FORM's CARD OF 'almonerlaw20.DeskReplies'. -/
def deskRepliesUptoCard : Claim7 := { stood := { row := deskRepliesUptoRow, standIns := [], harness := (true, "84ea4fbd1ca9fa1c8445f685970079243b19d21ec00a26dd522bcb2ec4b1dbd3"), looks := true }, kinds := [], alts := [], laidByText := true, laidKinds := [.sentinel, .sentinel, .sentinel, .sentinel, .sentinel], laidTests := true, laidLooks := .later }
def DeskRepliesUptoCardSaid : Prop := Claim7.holds Tryd.pinned (.plain (OpenSpec.upto deskRepliesSpec)) deskRepliesUptoCard

/-- THE SECOND FORM's CARD OF 'almonerlaw20.DeskAsks'. -/
def deskAsksUptoCard : Claim7 := { stood := { row := deskAsksUptoRow, standIns := [], harness := (true, "84ea4fbd1ca9fa1c8445f685970079243b19d21ec00a26dd522bcb2ec4b1dbd3"), looks := true }, kinds := [], alts := [], laidByText := true, laidKinds := [.sentinel, .sentinel, .sentinel, .sentinel, .sentinel], laidTests := true, laidLooks := .later }
def DeskAsksUptoCardSaid : Prop := Claim7.holds Tryd.pinned (.plain (OpenSpec.upto deskAsksSpec)) deskAsksUptoCard

/-- THE SECOND FORM's CARD OF 'almonerlaw20.DeskSlips'. -/
def deskSlipsUptoCard : Claim7 := { stood := { row := deskSlipsUptoRow, standIns := [], harness := (true, "84ea4fbd1ca9fa1c8445f685970079243b19d21ec00a26dd522bcb2ec4b1dbd3"), looks := true }, kinds := [], alts := [], laidByText := true, laidKinds := [.sentinel, .sentinel, .sentinel, .sentinel, .sentinel], laidTests := true, laidLooks := .later }
def DeskSlipsUptoCardSaid : Prop := Claim7.holds Tryd.pinned (.plain (OpenSpec.upto deskSlipsSpec)) deskSlipsUptoCard

/-- THE SECOND FORM's CARD OF 'almonerlaw20.DeskGets'. -/
def deskGetsUptoCard : Claim7 := { stood := { row := deskGetsUptoRow, standIns := [], harness := (true, "84ea4fbd1ca9fa1c8445f685970079243b19d21ec00a26dd522bcb2ec4b1dbd3"), looks := true }, kinds := [], alts := [], laidByText := true, laidKinds := [.sentinel, .sentinel, .sentinel, .sentinel, .sentinel], laidTests := true, laidLooks := .later }
def DeskGetsUptoCardSaid : Prop := Claim7.holds Tryd.pinned (.plain (OpenSpec.upto deskGetsSpec)) deskGetsUptoCard
end Rows
end Go.Proofs.YtblfljpmkgmjaaaDoor
