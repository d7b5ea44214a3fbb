/-
  DERIVED. GIVEN WITH THE SEED: THE CARDS: each row of YtkfkfcfbcfcbkaaDoorRows.lean that lists a variable, with what it lists TIED to the program's text (the seventh form; the later family's looks); each row that meets fmt, with fmt's text TOLD by the authors' own Lean function (tested against real Go, not proved from fmt's source: count such statements apart). THE CARD IS WHAT COUNTS. Prove the row's statement (the work); the ties are given (YtkfkfcfbcfcbkaaDoorTie.lean); close each card by the builder's one call (the guide's Derived/Test/ToyasCard.lean, 'card_holds'). Laid BY PROGRAM, IN A SANDBOX (cutbox-door.mjs). By AI agents, Wed Nov 11 2026. No macro, syntax, notation, axiom, sorry.
-/
import Derived.Test.YtkfkfcfbcfcbkaaDoorRows
import GoSem.ClaimSeven
namespace Go.Proofs.YtkfkfcfbcfcbkaaDoor
namespace Rows

/-- THE TIED CARD OF 'almonerlaw08.PlanCounts'. -/
def planCountsCard : Claim7 := { stood := { row := planCountsRow, standIns := [], harness := (true, "8534655e4f0463e3468a4e4e85574f843f6839aee0a3e4c98cb199b366f7f450"), looks := true }, kinds := [], alts := [], laidByText := true, laidKinds := [.sentinel, .sentinel], laidTests := true, laidLooks := .later }
def PlanCountsCardSaid : Prop := Claim7.holds Tryd.pinned (.plain (OpenSpec.ofChange planCountsSpec)) planCountsCard

/-- THE TIED CARD OF 'almonerlaw08.PlanLegal'. -/
def planLegalCard : Claim7 := { stood := { row := planLegalRow, standIns := [], harness := (true, "8534655e4f0463e3468a4e4e85574f843f6839aee0a3e4c98cb199b366f7f450"), looks := true }, kinds := [], alts := [], laidByText := true, laidKinds := [.sentinel, .sentinel, .sentinel], laidTests := true, laidLooks := .later }
def PlanLegalCardSaid : Prop := Claim7.holds Tryd.pinned (.plain (OpenSpec.ofChange planLegalSpec)) planLegalCard

/-- THE TIED CARD OF 'almonerlaw08.PlanOrders'. -/
def planOrdersCard : Claim7 := { stood := { row := planOrdersRow, standIns := [], harness := (true, "8534655e4f0463e3468a4e4e85574f843f6839aee0a3e4c98cb199b366f7f450"), looks := true }, kinds := [], alts := [], laidByText := true, laidKinds := [.sentinel, .sentinel], laidTests := true, laidLooks := .later }
def PlanOrdersCardSaid : Prop := Claim7.holds Tryd.pinned (.plain (OpenSpec.ofChange planOrdersSpec)) planOrdersCard

/-- THE TIED CARD OF 'almonerlaw11.DemandSplits'. -/
def demandSplitsCard : Claim7 := { stood := { row := demandSplitsRow, standIns := [], harness := (true, "8534655e4f0463e3468a4e4e85574f843f6839aee0a3e4c98cb199b366f7f450"), looks := true }, kinds := [], alts := [], laidByText := true, laidKinds := [.sentinel, .sentinel, .sentinel], laidTests := true, laidLooks := .later }
def DemandSplitsCardSaid : Prop := Claim7.holds Tryd.pinned (.plain (OpenSpec.ofChange demandSplitsSpec)) demandSplitsCard

/-- THE TIED CARD OF 'almonerlaw11.DemandServers'. -/
def demandServersCard : Claim7 := { stood := { row := demandServersRow, standIns := [], harness := (true, "8534655e4f0463e3468a4e4e85574f843f6839aee0a3e4c98cb199b366f7f450"), looks := true }, kinds := [], alts := [], laidByText := true, laidKinds := [.sentinel, .sentinel, .sentinel, .sentinel, .sentinel, .sentinel, .sentinel, .sentinel, .sentinel, .sentinel, .sentinel, .sentinel, .sentinel, .sentinel, .sentinel, .sentinel], laidTests := true, laidLooks := .later }
def DemandServersCardSaid : Prop := Claim7.holds Tryd.pinned (.plain (OpenSpec.ofChange demandServersSpec)) demandServersCard

/-- THE TIED CARD OF 'almonerlaw11.DemandGrows'. -/
def demandGrowsCard : Claim7 := { stood := { row := demandGrowsRow, standIns := [], harness := (true, "8534655e4f0463e3468a4e4e85574f843f6839aee0a3e4c98cb199b366f7f450"), looks := true }, kinds := [], alts := [], laidByText := true, laidKinds := [.sentinel, .sentinel, .sentinel, .sentinel, .sentinel, .sentinel, .sentinel, .sentinel, .sentinel, .sentinel, .sentinel, .sentinel, .sentinel, .sentinel, .sentinel, .sentinel], laidTests := true, laidLooks := .later }
def DemandGrowsCardSaid : Prop := Claim7.holds Tryd.pinned (.plain (OpenSpec.ofChange demandGrowsSpec)) demandGrowsCard

/-- THE TIED CARD OF 'almonerlaw11.DemandSteps'. -/
def demandStepsCard : Claim7 := { stood := { row := demandStepsRow, standIns := [], harness := (true, "8534655e4f0463e3468a4e4e85574f843f6839aee0a3e4c98cb199b366f7f450"), looks := true }, kinds := [], alts := [], laidByText := true, laidKinds := [.sentinel, .sentinel, .sentinel], laidTests := true, laidLooks := .later }
def DemandStepsCardSaid : Prop := Claim7.holds Tryd.pinned (.plain (OpenSpec.ofChange demandStepsSpec)) demandStepsCard

/-- THE TIED CARD OF 'almonerlaw08.PlanParts'. -/
def planPartsCard : Claim7 := { stood := { row := planPartsRow, standIns := [], harness := (true, "8534655e4f0463e3468a4e4e85574f843f6839aee0a3e4c98cb199b366f7f450"), looks := true }, kinds := [], alts := [], laidByText := true, laidKinds := [.sentinel, .sentinel], laidTests := true, laidLooks := .later }
def PlanPartsCardSaid : Prop := Claim7.holds Tryd.pinned (.plain (OpenSpec.ofChange planPartsSpec)) planPartsCard

/-- THE TIED CARD OF 'almonerlaw08.PlanShares'. -/
def planSharesCard : Claim7 := { stood := { row := planSharesRow, standIns := [], harness := (true, "8534655e4f0463e3468a4e4e85574f843f6839aee0a3e4c98cb199b366f7f450"), looks := true }, kinds := [], alts := [], laidByText := true, laidKinds := [.sentinel, .sentinel, .sentinel, .sentinel, .sentinel, .sentinel, .sentinel, .sentinel, .sentinel, .sentinel, .sentinel, .sentinel, .sentinel, .sentinel, .sentinel, .sentinel], laidTests := true, laidLooks := .later }
def PlanSharesCardSaid : Prop := Claim7.holds Tryd.pinned (.plain (OpenSpec.ofChange planSharesSpec)) planSharesCard

/-- THE TIED CARD OF 'almonerlaw11.DemandPeriods'. -/
def demandPeriodsCard : Claim7 := { stood := { row := demandPeriodsRow, standIns := [], harness := (true, "8534655e4f0463e3468a4e4e85574f843f6839aee0a3e4c98cb199b366f7f450"), looks := true }, kinds := [], alts := [], laidByText := true, laidKinds := [.sentinel, .sentinel, .sentinel, .sentinel], laidTests := true, laidLooks := .later }
def DemandPeriodsCardSaid : Prop := Claim7.holds Tryd.pinned (.plain (OpenSpec.ofChange demandPeriodsSpec)) demandPeriodsCard

/-- THE TIED CARD OF 'almonerlaw11.DemandTasks'. -/
def demandTasksCard : Claim7 := { stood := { row := demandTasksRow, standIns := [], harness := (true, "8534655e4f0463e3468a4e4e85574f843f6839aee0a3e4c98cb199b366f7f450"), looks := true }, kinds := [], alts := [], laidByText := true, laidKinds := [.sentinel, .sentinel, .sentinel, .sentinel, .sentinel, .sentinel, .sentinel, .sentinel, .sentinel, .sentinel, .sentinel, .sentinel, .sentinel, .sentinel, .sentinel, .sentinel], laidTests := true, laidLooks := .later }
def DemandTasksCardSaid : Prop := Claim7.holds Tryd.pinned (.plain (OpenSpec.ofChange demandTasksSpec)) demandTasksCard

/-- THE SECOND FORM's CARD OF 'almonerlaw08.PlanCounts'. -/
def planCountsUptoCard : Claim7 := { stood := { row := planCountsUptoRow, standIns := [], harness := (true, "8534655e4f0463e3468a4e4e85574f843f6839aee0a3e4c98cb199b366f7f450"), looks := true }, kinds := [], alts := [], laidByText := true, laidKinds := [.sentinel, .sentinel], laidTests := true, laidLooks := .later }
def PlanCountsUptoCardSaid : Prop := Claim7.holds Tryd.pinned (.plain (OpenSpec.upto planCountsSpec)) planCountsUptoCard

/-- THE SECOND FORM's CARD OF 'almonerlaw08.PlanLegal'. -/
def planLegalUptoCard : Claim7 := { stood := { row := planLegalUptoRow, standIns := [], harness := (true, "8534655e4f0463e3468a4e4e85574f843f6839aee0a3e4c98cb199b366f7f450"), looks := true }, kinds := [], alts := [], laidByText := true, laidKinds := [.sentinel, .sentinel, .sentinel], laidTests := true, laidLooks := .later }
def PlanLegalUptoCardSaid : Prop := Claim7.holds Tryd.pinned (.plain (OpenSpec.upto planLegalSpec)) planLegalUptoCard

/-- THE SECOND FORM's CARD OF 'almonerlaw08.PlanOrders'. -/
def planOrdersUptoCard : Claim7 := { stood := { row := planOrdersUptoRow, standIns := [], harness := (true, "8534655e4f0463e3468a4e4e85574f843f6839aee0a3e4c98cb199b366f7f450"), looks := true }, kinds := [], alts := [], laidByText := true, laidKinds := [.sentinel, .sentinel], laidTests := true, laidLooks := .later }
def PlanOrdersUptoCardSaid : Prop := Claim7.holds Tryd.pinned (.plain (OpenSpec.upto planOrdersSpec)) planOrdersUptoCard

/-- THE SECOND FORM's CARD OF 'almonerlaw11.DemandSplits'. -/
def demandSplitsUptoCard : Claim7 := { stood := { row := demandSplitsUptoRow, standIns := [], harness := (true, "8534655e4f0463e3468a4e4e85574f843f6839aee0a3e4c98cb199b366f7f450"), looks := true }, kinds := [], alts := [], laidByText := true, laidKinds := [.sentinel, .sentinel, .sentinel], laidTests := true, laidLooks := .later }
def DemandSplitsUptoCardSaid : Prop := Claim7.holds Tryd.pinned (.plain (OpenSpec.upto demandSplitsSpec)) demandSplitsUptoCard

/-- THE SECOND FORM's CARD OF 'almonerlaw11.DemandServers'. -/
def demandServersUptoCard : Claim7 := { stood := { row := demandServersUptoRow, standIns := [], harness := (true, "8534655e4f0463e3468a4e4e85574f843f6839aee0a3e4c98cb199b366f7f450"), looks := true }, kinds := [], alts := [], laidByText := true, laidKinds := [.sentinel, .sentinel, .sentinel, .sentinel, .sentinel, .sentinel, .sentinel, .sentinel, .sentinel, .sentinel, .sentinel, .sentinel, .sentinel, .sentinel, .sentinel, .sentinel], laidTests := true, laidLooks := .later }
def DemandServersUptoCardSaid : Prop := Claim7.holds Tryd.pinned (.plain (OpenSpec.upto demandServersSpec)) demandServersUptoCard

/-- THE SECOND FORM's CARD OF 'almonerlaw11.DemandGrows'. -/
def demandGrowsUptoCard : Claim7 := { stood := { row := demandGrowsUptoRow, standIns := [], harness := (true, "8534655e4f0463e3468a4e4e85574f843f6839aee0a3e4c98cb199b366f7f450"), looks := true }, kinds := [], alts := [], laidByText := true, laidKinds := [.sentinel, .sentinel, .sentinel, .sentinel, .sentinel, .sentinel, .sentinel, .sentinel, .sentinel, .sentinel, .sentinel, .sentinel, .sentinel, .sentinel, .sentinel, .sentinel], laidTests := true, laidLooks := .later }
def DemandGrowsUptoCardSaid : Prop := Claim7.holds Tryd.pinned (.plain (OpenSpec.upto demandGrowsSpec)) demandGrowsUptoCard

/-- THE SECOND FORM's CARD OF 'almonerlaw11.DemandSteps'. -/
def demandStepsUptoCard : Claim7 := { stood := { row := demandStepsUptoRow, standIns := [], harness := (true, "8534655e4f0463e3468a4e4e85574f843f6839aee0a3e4c98cb199b366f7f450"), looks := true }, kinds := [], alts := [], laidByText := true, laidKinds := [.sentinel, .sentinel, .sentinel], laidTests := true, laidLooks := .later }
def DemandStepsUptoCardSaid : Prop := Claim7.holds Tryd.pinned (.plain (OpenSpec.upto demandStepsSpec)) demandStepsUptoCard

/-- THE SECOND FORM's CARD OF 'almonerlaw08.PlanParts'. -/
def planPartsUptoCard : Claim7 := { stood := { row := planPartsUptoRow, standIns := [], harness := (true, "8534655e4f0463e3468a4e4e85574f843f6839aee0a3e4c98cb199b366f7f450"), looks := true }, kinds := [], alts := [], laidByText := true, laidKinds := [.sentinel, .sentinel], laidTests := true, laidLooks := .later }
def PlanPartsUptoCardSaid : Prop := Claim7.holds Tryd.pinned (.plain (OpenSpec.upto planPartsSpec)) planPartsUptoCard

/-- THE SECOND FORM's CARD OF 'almonerlaw08.PlanShares'. -/
def planSharesUptoCard : Claim7 := { stood := { row := planSharesUptoRow, standIns := [], harness := (true, "8534655e4f0463e3468a4e4e85574f843f6839aee0a3e4c98cb199b366f7f450"), looks := true }, kinds := [], alts := [], laidByText := true, laidKinds := [.sentinel, .sentinel, .sentinel, .sentinel, .sentinel, .sentinel, .sentinel, .sentinel, .sentinel, .sentinel, .sentinel, .sentinel, .sentinel, .sentinel, .sentinel, .sentinel], laidTests := true, laidLooks := .later }
def PlanSharesUptoCardSaid : Prop := Claim7.holds Tryd.pinned (.plain (OpenSpec.upto planSharesSpec)) planSharesUptoCard

/-- THE SECOND FORM's CARD OF 'almonerlaw11.DemandPeriods'. -/
def demandPeriodsUptoCard : Claim7 := { stood := { row := demandPeriodsUptoRow, standIns := [], harness := (true, "8534655e4f0463e3468a4e4e85574f843f6839aee0a3e4c98cb199b366f7f450"), looks := true }, kinds := [], alts := [], laidByText := true, laidKinds := [.sentinel, .sentinel, .sentinel, .sentinel], laidTests := true, laidLooks := .later }
def DemandPeriodsUptoCardSaid : Prop := Claim7.holds Tryd.pinned (.plain (OpenSpec.upto demandPeriodsSpec)) demandPeriodsUptoCard

/-- THE SECOND FORM's CARD OF 'almonerlaw11.DemandTasks'. -/
def demandTasksUptoCard : Claim7 := { stood := { row := demandTasksUptoRow, standIns := [], harness := (true, "8534655e4f0463e3468a4e4e85574f843f6839aee0a3e4c98cb199b366f7f450"), looks := true }, kinds := [], alts := [], laidByText := true, laidKinds := [.sentinel, .sentinel, .sentinel, .sentinel, .sentinel, .sentinel, .sentinel, .sentinel, .sentinel, .sentinel, .sentinel, .sentinel, .sentinel, .sentinel, .sentinel, .sentinel], laidTests := true, laidLooks := .later }
def DemandTasksUptoCardSaid : Prop := Claim7.holds Tryd.pinned (.plain (OpenSpec.upto demandTasksSpec)) demandTasksUptoCard
end Rows
end Go.Proofs.YtkfkfcfbcfcbkaaDoor
