/-
  DERIVED. GIVEN WITH THE SEED: THE CARDS: each row of YtmookdgeblcjnaaDoorRows.lean that lists a variable, with what it lists TIED to the program's text (the seventh form; the later family's looks); each row that meets fmt, with fmt's text TOLD by the authors' own Lean function (tested against real Go, not proved from fmt's source: count such statements apart). THE CARD IS WHAT COUNTS. Prove the row's statement (the work); the ties are given (YtmookdgeblcjnaaDoorTie.lean); close each card by the builder's one call (the guide's Derived/Test/ToyasCard.lean, 'card_holds'). Laid BY PROGRAM, IN A SANDBOX (cutbox-door.mjs). By AI agents, Wed Nov 11 2026. No macro, syntax, notation, axiom, sorry.
-/
import Derived.Test.YtmookdgeblcjnaaDoorRows
import GoSem.ClaimSeven
namespace Go.Proofs.YtmookdgeblcjnaaDoor
namespace Rows

/-- THE TIED CARD OF 'almonerlaw12.AdmitHalf'. -/
def admitHalfCard : Claim7 := { stood := { row := admitHalfRow, standIns := [], harness := (true, "7d17edfaf867ae96fa2272a96910f2c46cade617f127446a295340395f77243f"), looks := true }, kinds := [], alts := [], laidByText := true, laidKinds := [.sentinel, .sentinel, .sentinel, .sentinel, .sentinel], laidTests := true, laidLooks := .later }
def AdmitHalfCardSaid : Prop := Claim7.holds Tryd.pinned (.plain (OpenSpec.ofChange admitHalfSpec)) admitHalfCard

/-- THE TIED CARD OF 'almonerlaw12.AdmitRuns'. -/
def admitRunsCard : Claim7 := { stood := { row := admitRunsRow, standIns := [], harness := (true, "7d17edfaf867ae96fa2272a96910f2c46cade617f127446a295340395f77243f"), looks := true }, kinds := [], alts := [], laidByText := true, laidKinds := [.sentinel, .sentinel, .sentinel, .sentinel, .sentinel], laidTests := true, laidLooks := .later }
def AdmitRunsCardSaid : Prop := Claim7.holds Tryd.pinned (.plain (OpenSpec.ofChange admitRunsSpec)) admitRunsCard

/-- THE TIED CARD OF 'almonerlaw12.AdmitFewer'. -/
def admitFewerCard : Claim7 := { stood := { row := admitFewerRow, standIns := [], harness := (true, "7d17edfaf867ae96fa2272a96910f2c46cade617f127446a295340395f77243f"), looks := true }, kinds := [], alts := [], laidByText := true, laidKinds := [.sentinel, .sentinel, .sentinel, .sentinel, .sentinel], laidTests := true, laidLooks := .later }
def AdmitFewerCardSaid : Prop := Claim7.holds Tryd.pinned (.plain (OpenSpec.ofChange admitFewerSpec)) admitFewerCard

/-- THE TIED CARD OF 'almonerlaw12.AdmitBeyond'. -/
def admitBeyondCard : Claim7 := { stood := { row := admitBeyondRow, standIns := [], harness := (true, "7d17edfaf867ae96fa2272a96910f2c46cade617f127446a295340395f77243f"), looks := true }, kinds := [], alts := [], laidByText := true, laidKinds := [.sentinel, .sentinel, .sentinel, .sentinel, .sentinel], laidTests := true, laidLooks := .later }
def AdmitBeyondCardSaid : Prop := Claim7.holds Tryd.pinned (.plain (OpenSpec.ofChange admitBeyondSpec)) admitBeyondCard

/-- THE TIED CARD OF 'almonerlaw12.AdmitShorter'. -/
def admitShorterCard : Claim7 := { stood := { row := admitShorterRow, standIns := [], harness := (true, "7d17edfaf867ae96fa2272a96910f2c46cade617f127446a295340395f77243f"), looks := true }, kinds := [], alts := [], laidByText := true, laidKinds := [.sentinel, .sentinel, .sentinel, .sentinel, .sentinel], laidTests := true, laidLooks := .later }
def AdmitShorterCardSaid : Prop := Claim7.holds Tryd.pinned (.plain (OpenSpec.ofChange admitShorterSpec)) admitShorterCard

/-- THE SECOND FORM's CARD OF 'almonerlaw12.AdmitHalf'. -/
def admitHalfUptoCard : Claim7 := { stood := { row := admitHalfUptoRow, standIns := [], harness := (true, "7d17edfaf867ae96fa2272a96910f2c46cade617f127446a295340395f77243f"), looks := true }, kinds := [], alts := [], laidByText := true, laidKinds := [.sentinel, .sentinel, .sentinel, .sentinel, .sentinel], laidTests := true, laidLooks := .later }
def AdmitHalfUptoCardSaid : Prop := Claim7.holds Tryd.pinned (.plain (OpenSpec.upto admitHalfSpec)) admitHalfUptoCard

/-- THE SECOND FORM's CARD OF 'almonerlaw12.AdmitRuns'. -/
def admitRunsUptoCard : Claim7 := { stood := { row := admitRunsUptoRow, standIns := [], harness := (true, "7d17edfaf867ae96fa2272a96910f2c46cade617f127446a295340395f77243f"), looks := true }, kinds := [], alts := [], laidByText := true, laidKinds := [.sentinel, .sentinel, .sentinel, .sentinel, .sentinel], laidTests := true, laidLooks := .later }
def AdmitRunsUptoCardSaid : Prop := Claim7.holds Tryd.pinned (.plain (OpenSpec.upto admitRunsSpec)) admitRunsUptoCard

/-- THE SECOND FORM's CARD OF 'almonerlaw12.AdmitFewer'. -/
def admitFewerUptoCard : Claim7 := { stood := { row := admitFewerUptoRow, standIns := [], harness := (true, "7d17edfaf867ae96fa2272a96910f2c46cade617f127446a295340395f77243f"), looks := true }, kinds := [], alts := [], laidByText := true, laidKinds := [.sentinel, .sentinel, .sentinel, .sentinel, .sentinel], laidTests := true, laidLooks := .later }
def AdmitFewerUptoCardSaid : Prop := Claim7.holds Tryd.pinned (.plain (OpenSpec.upto admitFewerSpec)) admitFewerUptoCard

/-- THE SECOND FORM's CARD OF 'almonerlaw12.AdmitBeyond'. -/
def admitBeyondUptoCard : Claim7 := { stood := { row := admitBeyondUptoRow, standIns := [], harness := (true, "7d17edfaf867ae96fa2272a96910f2c46cade617f127446a295340395f77243f"), looks := true }, kinds := [], alts := [], laidByText := true, laidKinds := [.sentinel, .sentinel, .sentinel, .sentinel, .sentinel], laidTests := true, laidLooks := .later }
def AdmitBeyondUptoCardSaid : Prop := Claim7.holds Tryd.pinned (.plain (OpenSpec.upto admitBeyondSpec)) admitBeyondUptoCard

/-- THE SECOND FORM's CARD OF 'almonerlaw12.AdmitShorter'. -/
def admitShorterUptoCard : Claim7 := { stood := { row := admitShorterUptoRow, standIns := [], harness := (true, "7d17edfaf867ae96fa2272a96910f2c46cade617f127446a295340395f77243f"), looks := true }, kinds := [], alts := [], laidByText := true, laidKinds := [.sentinel, .sentinel, .sentinel, .sentinel, .sentinel], laidTests := true, laidLooks := .later }
def AdmitShorterUptoCardSaid : Prop := Claim7.holds Tryd.pinned (.plain (OpenSpec.upto admitShorterSpec)) admitShorterUptoCard
end Rows
end Go.Proofs.YtmookdgeblcjnaaDoor
