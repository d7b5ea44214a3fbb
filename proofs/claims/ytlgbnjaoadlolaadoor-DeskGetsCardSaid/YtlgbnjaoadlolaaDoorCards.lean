/-
  DERIVED. GIVEN WITH THE SEED: THE CARDS: each row of YtlgbnjaoadlolaaDoorRows.lean that lists a variable, with what it lists TIED to the program's text (the seventh form; the later family's looks); each row that meets fmt, with fmt's text TOLD by the authors' own Lean function (tested against real Go, not proved from fmt's source: count such statements apart). THE CARD IS WHAT COUNTS. Prove the row's statement (the work); the ties are given (YtlgbnjaoadlolaaDoorTie.lean); close each card by the builder's one call (the guide's Derived/Test/ToyasCard.lean, 'card_holds'). Laid BY PROGRAM, IN A SANDBOX (cutbox-door.mjs). By AI agents, Wed Nov 11 2026. No macro, syntax, notation, axiom, sorry.
-/
import Derived.Test.YtlgbnjaoadlolaaDoorRows
import GoSem.ClaimSeven
namespace Go.Proofs.YtlgbnjaoadlolaaDoor
namespace Rows

/-- THE TIED CARD OF 'almonerlaw20.DeskReplies'. -/
def deskRepliesCard : Claim7 := { stood := { row := deskRepliesRow, standIns := [], harness := (true, "4c0787768ec7c8aac6173cfe9f7b27ca671402f6311a94670fe06480b1549e69"), looks := true }, kinds := [], alts := [], laidByText := true, laidKinds := [.sentinel, .sentinel, .sentinel, .sentinel, .sentinel], laidTests := true, laidLooks := .later }
def DeskRepliesCardSaid : Prop := Claim7.holds Tryd.pinned (.plain (OpenSpec.ofChange deskRepliesSpec)) deskRepliesCard

/-- THE TIED CARD OF 'almonerlaw20.DeskAsks'. -/
def deskAsksCard : Claim7 := { stood := { row := deskAsksRow, standIns := [], harness := (true, "4c0787768ec7c8aac6173cfe9f7b27ca671402f6311a94670fe06480b1549e69"), looks := true }, kinds := [], alts := [], laidByText := true, laidKinds := [.sentinel, .sentinel, .sentinel, .sentinel, .sentinel], laidTests := true, laidLooks := .later }
def DeskAsksCardSaid : Prop := Claim7.holds Tryd.pinned (.plain (OpenSpec.ofChange deskAsksSpec)) deskAsksCard

/-- THE TIED CARD OF 'almonerlaw20.DeskSlips'. -/
def deskSlipsCard : Claim7 := { stood := { row := deskSlipsRow, standIns := [], harness := (true, "4c0787768ec7c8aac6173cfe9f7b27ca671402f6311a94670fe06480b1549e69"), looks := true }, kinds := [], alts := [], laidByText := true, laidKinds := [.sentinel, .sentinel, .sentinel, .sentinel, .sentinel], laidTests := true, laidLooks := .later }
def DeskSlipsCardSaid : Prop := Claim7.holds Tryd.pinned (.plain (OpenSpec.ofChange deskSlipsSpec)) deskSlipsCard

/-- THE TIED CARD OF 'almonerlaw20.DeskGets'. -/
def deskGetsCard : Claim7 := { stood := { row := deskGetsRow, standIns := [], harness := (true, "4c0787768ec7c8aac6173cfe9f7b27ca671402f6311a94670fe06480b1549e69"), looks := true }, kinds := [], alts := [], laidByText := true, laidKinds := [.sentinel, .sentinel, .sentinel, .sentinel, .sentinel], laidTests := true, laidLooks := .later }
def DeskGetsCardSaid : Prop := Claim7.holds Tryd.pinned (.plain (OpenSpec.ofChange deskGetsSpec)) deskGetsCard

/-- THE SECOND FORM's CARD OF 'almonerlaw20.DeskReplies'. -/
def deskRepliesUptoCard : Claim7 := { stood := { row := deskRepliesUptoRow, standIns := [], harness := (true, "4c0787768ec7c8aac6173cfe9f7b27ca671402f6311a94670fe06480b1549e69"), looks := true }, kinds := [], alts := [], laidByText := true, laidKinds := [.sentinel, .sentinel, .sentinel, .sentinel, .sentinel], laidTests := true, laidLooks := .later }
def DeskRepliesUptoCardSaid : Prop := Claim7.holds Tryd.pinned (.plain (OpenSpec.upto deskRepliesSpec)) deskRepliesUptoCard

/-- THE SECOND FORM's CARD OF 'almonerlaw20.DeskAsks'. -/
def deskAsksUptoCard : Claim7 := { stood := { row := deskAsksUptoRow, standIns := [], harness := (true, "4c0787768ec7c8aac6173cfe9f7b27ca671402f6311a94670fe06480b1549e69"), looks := true }, kinds := [], alts := [], laidByText := true, laidKinds := [.sentinel, .sentinel, .sentinel, .sentinel, .sentinel], laidTests := true, laidLooks := .later }
def DeskAsksUptoCardSaid : Prop := Claim7.holds Tryd.pinned (.plain (OpenSpec.upto deskAsksSpec)) deskAsksUptoCard

/-- THE SECOND FORM's CARD OF 'almonerlaw20.DeskSlips'. -/
def deskSlipsUptoCard : Claim7 := { stood := { row := deskSlipsUptoRow, standIns := [], harness := (true, "4c0787768ec7c8aac6173cfe9f7b27ca671402f6311a94670fe06480b1549e69"), looks := true }, kinds := [], alts := [], laidByText := true, laidKinds := [.sentinel, .sentinel, .sentinel, .sentinel, .sentinel], laidTests := true, laidLooks := .later }
def DeskSlipsUptoCardSaid : Prop := Claim7.holds Tryd.pinned (.plain (OpenSpec.upto deskSlipsSpec)) deskSlipsUptoCard

/-- THE SECOND FORM's CARD OF 'almonerlaw20.DeskGets'. -/
def deskGetsUptoCard : Claim7 := { stood := { row := deskGetsUptoRow, standIns := [], harness := (true, "4c0787768ec7c8aac6173cfe9f7b27ca671402f6311a94670fe06480b1549e69"), looks := true }, kinds := [], alts := [], laidByText := true, laidKinds := [.sentinel, .sentinel, .sentinel, .sentinel, .sentinel], laidTests := true, laidLooks := .later }
def DeskGetsUptoCardSaid : Prop := Claim7.holds Tryd.pinned (.plain (OpenSpec.upto deskGetsSpec)) deskGetsUptoCard
end Rows
end Go.Proofs.YtlgbnjaoadlolaaDoor
