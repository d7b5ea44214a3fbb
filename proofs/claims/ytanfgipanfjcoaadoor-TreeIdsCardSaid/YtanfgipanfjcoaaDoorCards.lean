/-
  DERIVED. GIVEN WITH THE SEED: THE CARDS: each row of YtanfgipanfjcoaaDoorRows.lean that lists a variable, with what it lists TIED to the program's text (the seventh form; the later family's looks); each row that meets fmt, with fmt's text TOLD by the authors' own Lean function (tested against real Go, not proved from fmt's source: count such statements apart). THE CARD IS WHAT COUNTS. Prove the row's statement (the work); the ties are given (YtanfgipanfjcoaaDoorTie.lean); close each card by the builder's one call (the guide's Derived/Test/ToyasCard.lean, 'card_holds'). Laid BY PROGRAM, IN A SANDBOX (cutbox-door.mjs). By AI agents, Wed Nov 11 2026. No macro, syntax, notation, axiom, sorry.
-/
import Derived.Test.YtanfgipanfjcoaaDoorRows
import GoSem.ClaimSeven
namespace Go.Proofs.YtanfgipanfjcoaaDoor
namespace Rows

/-- THE TIED CARD OF 'almonerlaw13.TreeRefused'. -/
def treeRefusedCard : Claim7 := { stood := { row := treeRefusedRow, standIns := [], harness := (true, "0d59ffb39bd4c403313979e4aa6c96924e377623cbb61b87de60ce3a936bbf9c"), looks := false }, kinds := [], alts := [], laidByText := true, laidKinds := [.sentinel, .sentinel, .sentinel, .sentinel, .sentinel], laidTests := true, laidLooks := .later }
def TreeRefusedCardSaid : Prop := Claim7.holds Tryd.pinned (.plain (OpenSpec.ofChange treeRefusedSpec)) treeRefusedCard

/-- THE TIED CARD OF 'almonerlaw13.TreeGhosts'. -/
def treeGhostsCard : Claim7 := { stood := { row := treeGhostsRow, standIns := [], harness := (true, "0d59ffb39bd4c403313979e4aa6c96924e377623cbb61b87de60ce3a936bbf9c"), looks := false }, kinds := [], alts := [], laidByText := true, laidKinds := [.sentinel, .sentinel, .sentinel, .sentinel, .sentinel], laidTests := true, laidLooks := .later }
def TreeGhostsCardSaid : Prop := Claim7.holds Tryd.pinned (.plain (OpenSpec.ofChange treeGhostsSpec)) treeGhostsCard

/-- THE TIED CARD OF 'almonerlaw13.TreeIds'. -/
def treeIdsCard : Claim7 := { stood := { row := treeIdsRow, standIns := [], harness := (true, "0d59ffb39bd4c403313979e4aa6c96924e377623cbb61b87de60ce3a936bbf9c"), looks := false }, kinds := [], alts := [], laidByText := true, laidKinds := [.sentinel, .sentinel, .sentinel, .sentinel, .sentinel], laidTests := true, laidLooks := .later }
def TreeIdsCardSaid : Prop := Claim7.holds Tryd.pinned (.plain (OpenSpec.ofChange treeIdsSpec)) treeIdsCard

/-- THE TIED CARD OF 'almonerlaw13.TreeTimes'. -/
def treeTimesCard : Claim7 := { stood := { row := treeTimesRow, standIns := [], harness := (true, "0d59ffb39bd4c403313979e4aa6c96924e377623cbb61b87de60ce3a936bbf9c"), looks := false }, kinds := [], alts := [], laidByText := true, laidKinds := [.sentinel, .sentinel, .sentinel, .sentinel, .sentinel], laidTests := true, laidLooks := .later }
def TreeTimesCardSaid : Prop := Claim7.holds Tryd.pinned (.plain (OpenSpec.ofChange treeTimesSpec)) treeTimesCard

/-- THE SECOND FORM's CARD OF 'almonerlaw13.TreeRefused'. -/
def treeRefusedUptoCard : Claim7 := { stood := { row := treeRefusedUptoRow, standIns := [], harness := (true, "0d59ffb39bd4c403313979e4aa6c96924e377623cbb61b87de60ce3a936bbf9c"), looks := false }, kinds := [], alts := [], laidByText := true, laidKinds := [.sentinel, .sentinel, .sentinel, .sentinel, .sentinel], laidTests := true, laidLooks := .later }
def TreeRefusedUptoCardSaid : Prop := Claim7.holds Tryd.pinned (.plain (OpenSpec.upto treeRefusedSpec)) treeRefusedUptoCard

/-- THE SECOND FORM's CARD OF 'almonerlaw13.TreeGhosts'. -/
def treeGhostsUptoCard : Claim7 := { stood := { row := treeGhostsUptoRow, standIns := [], harness := (true, "0d59ffb39bd4c403313979e4aa6c96924e377623cbb61b87de60ce3a936bbf9c"), looks := false }, kinds := [], alts := [], laidByText := true, laidKinds := [.sentinel, .sentinel, .sentinel, .sentinel, .sentinel], laidTests := true, laidLooks := .later }
def TreeGhostsUptoCardSaid : Prop := Claim7.holds Tryd.pinned (.plain (OpenSpec.upto treeGhostsSpec)) treeGhostsUptoCard

/-- THE SECOND FORM's CARD OF 'almonerlaw13.TreeIds'. -/
def treeIdsUptoCard : Claim7 := { stood := { row := treeIdsUptoRow, standIns := [], harness := (true, "0d59ffb39bd4c403313979e4aa6c96924e377623cbb61b87de60ce3a936bbf9c"), looks := false }, kinds := [], alts := [], laidByText := true, laidKinds := [.sentinel, .sentinel, .sentinel, .sentinel, .sentinel], laidTests := true, laidLooks := .later }
def TreeIdsUptoCardSaid : Prop := Claim7.holds Tryd.pinned (.plain (OpenSpec.upto treeIdsSpec)) treeIdsUptoCard

/-- THE SECOND FORM's CARD OF 'almonerlaw13.TreeTimes'. -/
def treeTimesUptoCard : Claim7 := { stood := { row := treeTimesUptoRow, standIns := [], harness := (true, "0d59ffb39bd4c403313979e4aa6c96924e377623cbb61b87de60ce3a936bbf9c"), looks := false }, kinds := [], alts := [], laidByText := true, laidKinds := [.sentinel, .sentinel, .sentinel, .sentinel, .sentinel], laidTests := true, laidLooks := .later }
def TreeTimesUptoCardSaid : Prop := Claim7.holds Tryd.pinned (.plain (OpenSpec.upto treeTimesSpec)) treeTimesUptoCard
end Rows
end Go.Proofs.YtanfgipanfjcoaaDoor
