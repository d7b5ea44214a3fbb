/-
  NARROWER THAN 'FOR EVERY INPUT', by the rows' own cells (each row's printed sentence says how): PlanCounts: laid · PlanLegal: laid · PlanOrders: laid · DemandSplits: laid · DemandServers: laid · DemandGrows: laid · DemandSteps: laid · PlanParts: laid · PlanShares: laid · DemandPeriods: laid · DemandTasks: laid.
  DERIVED. THE GIVEN ROWS OF THIS SEAT. 11 by the template 'for every input the law returns true; each argument reads behind the call as it read before'; 0 by the template 'total and deterministic' (their statements: YtkfkfcfbcfcbkaaDoorTotals.lean).
  GIVEN WITH THE SEED: the statements are not yours to turn. If you find one false, say at which input.
  Laid BY PROGRAM, IN A SANDBOX (cutbox-rows.mjs): the forced cells as the released guide's own fill.sh prints them over the translation e02115032797e99e… (all of the seat's roots in one cut). By AI agents, Wed Nov 11 2026. No macro, syntax, notation, axiom, sorry.
-/
import Derived.Test.YtkfkfcfbcfcbkaaDoorChecked
import GoSem.Claim
import GoSem.ClaimJoined
import GoSem.ClaimMapViews
import Derived.JoinedTies
import Derived.KernelRfl
namespace Go.Proofs.YtkfkfcfbcfcbkaaDoor
/- THE CELL 'sum', in the pinned program and in every row, IS THE sha256 OF THE DUMP (.gsa) THAT YtkfkfcfbcfcbkaaDoorProg.lean LOADS. Nothing in Lean hashes anything: it is a label: what it is worth is what the hold of that sum in a sandbox is worth. -/
noncomputable def Tryd.pinned : Pinned := { name := "ytkfkfcfbcfcbkaadoor", sum := "e02115032797e99e1b9ad26f9208f3e734f6b1f1ec8db96d7bcba1e4c0f60cdb", checked := Tryd.checked }
namespace Rows
def none {H : Type} : Left H := { results := [], args := [] }

/- WHAT THE LISTED PACKAGE-LEVEL VARIABLES READ AS WHEN THE CALL BEGINS. Each datum BY PROGRAM (the guide's laid-datum.mjs) off the statement by which the dump's own 'gosem.cut.vars' lays the variable. In a bare row this is a premise. The card (YtkfkfcfbcfcbkaaDoorCards.lean) ties it to the program's text. -/
def laid_almoner_api_ErrFull {H : Type} : DataW H := .iface "*errors.errorString" (.ptr (.agg [.lit (.string [97, 108, 109, 111, 110, 101, 114, 58, 32, 102, 117, 108, 108])]))
def laid_almoner_api_ErrServer {H : Type} : DataW H := .iface "*errors.errorString" (.ptr (.agg [.lit (.string [97, 108, 109, 111, 110, 101, 114, 58, 32, 115, 101, 114, 118, 101, 114])]))
def laid_almoner_api_ErrTask {H : Type} : DataW H := .iface "*errors.errorString" (.ptr (.agg [.lit (.string [97, 108, 109, 111, 110, 101, 114, 58, 32, 116, 97, 115, 107])]))
def laid_almoner_api_ErrNumber {H : Type} : DataW H := .iface "*errors.errorString" (.ptr (.agg [.lit (.string [97, 108, 109, 111, 110, 101, 114, 58, 32, 110, 117, 109, 98, 101, 114])]))
def laid_almoner_api_ErrOver {H : Type} : DataW H := .iface "*errors.errorString" (.ptr (.agg [.lit (.string [97, 108, 109, 111, 110, 101, 114, 58, 32, 111, 118, 101, 114])]))
def laid_almoner_api_ErrBytes {H : Type} : DataW H := .iface "*errors.errorString" (.ptr (.agg [.lit (.string [97, 108, 109, 111, 110, 101, 114, 58, 32, 98, 121, 116, 101, 115])]))
def laid_almoner_api_ErrSum {H : Type} : DataW H := .iface "*errors.errorString" (.ptr (.agg [.lit (.string [97, 108, 109, 111, 110, 101, 114, 58, 32, 115, 117, 109])]))
def laid_almoner_api_ErrGone {H : Type} : DataW H := .iface "*errors.errorString" (.ptr (.agg [.lit (.string [97, 108, 109, 111, 110, 101, 114, 58, 32, 103, 111, 110, 101])]))
def laid_almoner_api_ErrThere {H : Type} : DataW H := .iface "*errors.errorString" (.ptr (.agg [.lit (.string [97, 108, 109, 111, 110, 101, 114, 58, 32, 116, 104, 101, 114, 101])]))
def laid_almoner_api_ErrLarge {H : Type} : DataW H := .iface "*errors.errorString" (.ptr (.agg [.lit (.string [97, 108, 109, 111, 110, 101, 114, 58, 32, 108, 97, 114, 103, 101])]))
def laid_almoner_api_ErrLost {H : Type} : DataW H := .iface "*errors.errorString" (.ptr (.agg [.lit (.string [97, 108, 109, 111, 110, 101, 114, 58, 32, 108, 111, 115, 116])]))
def laid_almoner_api_ErrTight {H : Type} : DataW H := .iface "*errors.errorString" (.ptr (.agg [.lit (.string [97, 108, 109, 111, 110, 101, 114, 58, 32, 116, 105, 103, 104, 116])]))
def laid_almoner_api_ErrDeep {H : Type} : DataW H := .iface "*errors.errorString" (.ptr (.agg [.lit (.string [97, 108, 109, 111, 110, 101, 114, 58, 32, 100, 101, 101, 112])]))
def laid_almoner_api_ErrBusy {H : Type} : DataW H := .iface "*errors.errorString" (.ptr (.agg [.lit (.string [97, 108, 109, 111, 110, 101, 114, 58, 32, 98, 117, 115, 121])]))
def laid_almoner_api_ErrBallot {H : Type} : DataW H := .iface "*errors.errorString" (.ptr (.agg [.lit (.string [97, 108, 109, 111, 110, 101, 114, 58, 32, 98, 97, 108, 108, 111, 116])]))
def laid_almoner_api_ErrState {H : Type} : DataW H := .iface "*errors.errorString" (.ptr (.agg [.lit (.string [97, 108, 109, 111, 110, 101, 114, 58, 32, 115, 116, 97, 116, 101])]))

/-- 'almonerlaw08.PlanCounts': WHATEVER THE INPUT: true; the input reads as it did. -/
def planCountsSpec : ChangeSpec := { name := "planCounts", fn := fun _ => fun
  | [d] => { results := [.lit (.bool true)], args := [d] }
  | _ => none }
def planCountsRow : OpenClaim := { program := "ytkfkfcfbcfcbkaadoor", sum := "e02115032797e99e1b9ad26f9208f3e734f6b1f1ec8db96d7bcba1e4c0f60cdb", func := "almoner/almonerlaw08.PlanCounts", spec := "planCounts", inPlace := ["math/bits.Add64"], named := ["almoner/api.ErrServer", "almoner/api.ErrFull"], plainKeys := false, apart := false, laid := [("almoner/api.ErrFull", laid_almoner_api_ErrFull), ("almoner/api.ErrServer", laid_almoner_api_ErrServer)] }
def PlanCountsSaid : Prop := planCountsRow.holds Tryd.pinned (OpenSpec.ofChange planCountsSpec)

/-- ITS FALSE NEIGHBOUR: 'it returns false'. Refute it at one input. -/
def planCountsWrong : ChangeSpec := { name := "planCounts", fn := fun _ => fun
  | [d] => { results := [.lit (.bool false)], args := [d] }
  | _ => none }
def PlanCountsWrongFalsely : Prop := planCountsRow.holds Tryd.pinned (OpenSpec.ofChange planCountsWrong)

/-- 'almonerlaw08.PlanLegal': WHATEVER THE INPUT: true; the input reads as it did. -/
def planLegalSpec : ChangeSpec := { name := "planLegal", fn := fun _ => fun
  | [d1, d2, d3] => { results := [.lit (.bool true)], args := [d1, d2, d3] }
  | _ => none }
def planLegalRow : OpenClaim := { program := "ytkfkfcfbcfcbkaadoor", sum := "e02115032797e99e1b9ad26f9208f3e734f6b1f1ec8db96d7bcba1e4c0f60cdb", func := "almoner/almonerlaw08.PlanLegal", spec := "planLegal", inPlace := ["math/bits.Add64"], named := ["almoner/api.ErrServer", "almoner/api.ErrTask", "almoner/api.ErrFull"], plainKeys := false, apart := false, laid := [("almoner/api.ErrFull", laid_almoner_api_ErrFull), ("almoner/api.ErrServer", laid_almoner_api_ErrServer), ("almoner/api.ErrTask", laid_almoner_api_ErrTask)] }
def PlanLegalSaid : Prop := planLegalRow.holds Tryd.pinned (OpenSpec.ofChange planLegalSpec)

/-- ITS FALSE NEIGHBOUR: 'it returns false'. Refute it at one input. -/
def planLegalWrong : ChangeSpec := { name := "planLegal", fn := fun _ => fun
  | [d1, d2, d3] => { results := [.lit (.bool false)], args := [d1, d2, d3] }
  | _ => none }
def PlanLegalWrongFalsely : Prop := planLegalRow.holds Tryd.pinned (OpenSpec.ofChange planLegalWrong)

/-- 'almonerlaw08.PlanOrders': WHATEVER THE INPUT: true; the input reads as it did. -/
def planOrdersSpec : ChangeSpec := { name := "planOrders", fn := fun _ => fun
  | [d1, d2, d3] => { results := [.lit (.bool true)], args := [d1, d2, d3] }
  | _ => none }
def planOrdersRow : OpenClaim := { program := "ytkfkfcfbcfcbkaadoor", sum := "e02115032797e99e1b9ad26f9208f3e734f6b1f1ec8db96d7bcba1e4c0f60cdb", func := "almoner/almonerlaw08.PlanOrders", spec := "planOrders", inPlace := ["math/bits.Add64"], named := ["almoner/api.ErrServer", "almoner/api.ErrFull"], plainKeys := false, apart := false, laid := [("almoner/api.ErrFull", laid_almoner_api_ErrFull), ("almoner/api.ErrServer", laid_almoner_api_ErrServer)] }
def PlanOrdersSaid : Prop := planOrdersRow.holds Tryd.pinned (OpenSpec.ofChange planOrdersSpec)

/-- ITS FALSE NEIGHBOUR: 'it returns false'. Refute it at one input. -/
def planOrdersWrong : ChangeSpec := { name := "planOrders", fn := fun _ => fun
  | [d1, d2, d3] => { results := [.lit (.bool false)], args := [d1, d2, d3] }
  | _ => none }
def PlanOrdersWrongFalsely : Prop := planOrdersRow.holds Tryd.pinned (OpenSpec.ofChange planOrdersWrong)

/-- 'almonerlaw11.DemandSplits': WHATEVER THE INPUT: true; the input reads as it did. -/
def demandSplitsSpec : ChangeSpec := { name := "demandSplits", fn := fun _ => fun
  | [d1, d2, d3] => { results := [.lit (.bool true)], args := [d1, d2, d3] }
  | _ => none }
def demandSplitsRow : OpenClaim := { program := "ytkfkfcfbcfcbkaadoor", sum := "e02115032797e99e1b9ad26f9208f3e734f6b1f1ec8db96d7bcba1e4c0f60cdb", func := "almoner/almonerlaw11.DemandSplits", spec := "demandSplits", inPlace := ["math/bits.Add64"], unfollowed := true, recurses := true, named := ["almoner/api.ErrFull", "almoner/api.ErrServer", "almoner/api.ErrNumber"], plainKeys := false, apart := false, laid := [("almoner/api.ErrNumber", laid_almoner_api_ErrNumber), ("almoner/api.ErrFull", laid_almoner_api_ErrFull), ("almoner/api.ErrServer", laid_almoner_api_ErrServer)] }
def DemandSplitsSaid : Prop := demandSplitsRow.holds Tryd.pinned (OpenSpec.ofChange demandSplitsSpec)

/-- ITS FALSE NEIGHBOUR: 'it returns false'. Refute it at one input. -/
def demandSplitsWrong : ChangeSpec := { name := "demandSplits", fn := fun _ => fun
  | [d1, d2, d3] => { results := [.lit (.bool false)], args := [d1, d2, d3] }
  | _ => none }
def DemandSplitsWrongFalsely : Prop := demandSplitsRow.holds Tryd.pinned (OpenSpec.ofChange demandSplitsWrong)

/-- 'almonerlaw11.DemandServers': WHATEVER THE INPUT: true; the input reads as it did. -/
def demandServersSpec : ChangeSpec := { name := "demandServers", fn := fun _ => fun
  | [d1, d2, d3] => { results := [.lit (.bool true)], args := [d1, d2, d3] }
  | _ => none }
def demandServersRow : OpenClaim := { program := "ytkfkfcfbcfcbkaadoor", sum := "e02115032797e99e1b9ad26f9208f3e734f6b1f1ec8db96d7bcba1e4c0f60cdb", func := "almoner/almonerlaw11.DemandServers", spec := "demandServers", inPlace := ["math/bits.Add64"], unfollowed := true, recurses := true, named := ["almoner/api.ErrServer", "almoner/api.ErrNumber", "almoner/api.ErrFull", "almoner/api.ErrOver", "almoner/api.ErrBytes", "almoner/api.ErrSum", "almoner/api.ErrGone", "almoner/api.ErrThere", "almoner/api.ErrLarge", "almoner/api.ErrLost", "almoner/api.ErrTask", "almoner/api.ErrTight", "almoner/api.ErrDeep", "almoner/api.ErrBusy", "almoner/api.ErrBallot", "almoner/api.ErrState"], plainKeys := false, apart := false, laid := [("almoner/api.ErrNumber", laid_almoner_api_ErrNumber), ("almoner/api.ErrOver", laid_almoner_api_ErrOver), ("almoner/api.ErrBytes", laid_almoner_api_ErrBytes), ("almoner/api.ErrSum", laid_almoner_api_ErrSum), ("almoner/api.ErrGone", laid_almoner_api_ErrGone), ("almoner/api.ErrThere", laid_almoner_api_ErrThere), ("almoner/api.ErrFull", laid_almoner_api_ErrFull), ("almoner/api.ErrLarge", laid_almoner_api_ErrLarge), ("almoner/api.ErrLost", laid_almoner_api_ErrLost), ("almoner/api.ErrServer", laid_almoner_api_ErrServer), ("almoner/api.ErrTask", laid_almoner_api_ErrTask), ("almoner/api.ErrTight", laid_almoner_api_ErrTight), ("almoner/api.ErrDeep", laid_almoner_api_ErrDeep), ("almoner/api.ErrBusy", laid_almoner_api_ErrBusy), ("almoner/api.ErrBallot", laid_almoner_api_ErrBallot), ("almoner/api.ErrState", laid_almoner_api_ErrState)] }
def DemandServersSaid : Prop := demandServersRow.holds Tryd.pinned (OpenSpec.ofChange demandServersSpec)

/-- ITS FALSE NEIGHBOUR: 'it returns false'. Refute it at one input. -/
def demandServersWrong : ChangeSpec := { name := "demandServers", fn := fun _ => fun
  | [d1, d2, d3] => { results := [.lit (.bool false)], args := [d1, d2, d3] }
  | _ => none }
def DemandServersWrongFalsely : Prop := demandServersRow.holds Tryd.pinned (OpenSpec.ofChange demandServersWrong)

/-- 'almonerlaw11.DemandGrows': WHATEVER THE INPUT: true; the input reads as it did. -/
def demandGrowsSpec : ChangeSpec := { name := "demandGrows", fn := fun _ => fun
  | [d1, d2] => { results := [.lit (.bool true)], args := [d1, d2] }
  | _ => none }
def demandGrowsRow : OpenClaim := { program := "ytkfkfcfbcfcbkaadoor", sum := "e02115032797e99e1b9ad26f9208f3e734f6b1f1ec8db96d7bcba1e4c0f60cdb", func := "almoner/almonerlaw11.DemandGrows", spec := "demandGrows", inPlace := ["math/bits.Add64"], unfollowed := true, recurses := true, named := ["almoner/api.ErrFull", "almoner/api.ErrServer", "almoner/api.ErrNumber", "almoner/api.ErrOver", "almoner/api.ErrBytes", "almoner/api.ErrSum", "almoner/api.ErrGone", "almoner/api.ErrThere", "almoner/api.ErrLarge", "almoner/api.ErrLost", "almoner/api.ErrTask", "almoner/api.ErrTight", "almoner/api.ErrDeep", "almoner/api.ErrBusy", "almoner/api.ErrBallot", "almoner/api.ErrState"], plainKeys := false, apart := false, laid := [("almoner/api.ErrNumber", laid_almoner_api_ErrNumber), ("almoner/api.ErrOver", laid_almoner_api_ErrOver), ("almoner/api.ErrBytes", laid_almoner_api_ErrBytes), ("almoner/api.ErrSum", laid_almoner_api_ErrSum), ("almoner/api.ErrGone", laid_almoner_api_ErrGone), ("almoner/api.ErrThere", laid_almoner_api_ErrThere), ("almoner/api.ErrFull", laid_almoner_api_ErrFull), ("almoner/api.ErrLarge", laid_almoner_api_ErrLarge), ("almoner/api.ErrLost", laid_almoner_api_ErrLost), ("almoner/api.ErrServer", laid_almoner_api_ErrServer), ("almoner/api.ErrTask", laid_almoner_api_ErrTask), ("almoner/api.ErrTight", laid_almoner_api_ErrTight), ("almoner/api.ErrDeep", laid_almoner_api_ErrDeep), ("almoner/api.ErrBusy", laid_almoner_api_ErrBusy), ("almoner/api.ErrBallot", laid_almoner_api_ErrBallot), ("almoner/api.ErrState", laid_almoner_api_ErrState)] }
def DemandGrowsSaid : Prop := demandGrowsRow.holds Tryd.pinned (OpenSpec.ofChange demandGrowsSpec)

/-- ITS FALSE NEIGHBOUR: 'it returns false'. Refute it at one input. -/
def demandGrowsWrong : ChangeSpec := { name := "demandGrows", fn := fun _ => fun
  | [d1, d2] => { results := [.lit (.bool false)], args := [d1, d2] }
  | _ => none }
def DemandGrowsWrongFalsely : Prop := demandGrowsRow.holds Tryd.pinned (OpenSpec.ofChange demandGrowsWrong)

/-- 'almonerlaw11.DemandSteps': WHATEVER THE INPUT: true; the input reads as it did. -/
def demandStepsSpec : ChangeSpec := { name := "demandSteps", fn := fun _ => fun
  | [d1, d2] => { results := [.lit (.bool true)], args := [d1, d2] }
  | _ => none }
def demandStepsRow : OpenClaim := { program := "ytkfkfcfbcfcbkaadoor", sum := "e02115032797e99e1b9ad26f9208f3e734f6b1f1ec8db96d7bcba1e4c0f60cdb", func := "almoner/almonerlaw11.DemandSteps", spec := "demandSteps", inPlace := ["math/bits.Add64"], unfollowed := true, recurses := true, named := ["almoner/api.ErrFull", "almoner/api.ErrServer", "almoner/api.ErrNumber"], plainKeys := false, apart := false, laid := [("almoner/api.ErrNumber", laid_almoner_api_ErrNumber), ("almoner/api.ErrFull", laid_almoner_api_ErrFull), ("almoner/api.ErrServer", laid_almoner_api_ErrServer)] }
def DemandStepsSaid : Prop := demandStepsRow.holds Tryd.pinned (OpenSpec.ofChange demandStepsSpec)

/-- ITS FALSE NEIGHBOUR: 'it returns false'. Refute it at one input. -/
def demandStepsWrong : ChangeSpec := { name := "demandSteps", fn := fun _ => fun
  | [d1, d2] => { results := [.lit (.bool false)], args := [d1, d2] }
  | _ => none }
def DemandStepsWrongFalsely : Prop := demandStepsRow.holds Tryd.pinned (OpenSpec.ofChange demandStepsWrong)

/-- 'almonerlaw08.PlanParts': WHATEVER THE INPUT: true; the input reads as it did. -/
def planPartsSpec : ChangeSpec := { name := "planParts", fn := fun _ => fun
  | [d1, d2] => { results := [.lit (.bool true)], args := [d1, d2] }
  | _ => none }
def planPartsRow : OpenClaim := { program := "ytkfkfcfbcfcbkaadoor", sum := "e02115032797e99e1b9ad26f9208f3e734f6b1f1ec8db96d7bcba1e4c0f60cdb", func := "almoner/almonerlaw08.PlanParts", spec := "planParts", inPlace := ["math/bits.Add64"], named := ["almoner/api.ErrServer", "almoner/api.ErrFull"], plainKeys := false, apart := false, laid := [("almoner/api.ErrFull", laid_almoner_api_ErrFull), ("almoner/api.ErrServer", laid_almoner_api_ErrServer)] }
def PlanPartsSaid : Prop := planPartsRow.holds Tryd.pinned (OpenSpec.ofChange planPartsSpec)

/-- ITS FALSE NEIGHBOUR: 'it returns false'. Refute it at one input. -/
def planPartsWrong : ChangeSpec := { name := "planParts", fn := fun _ => fun
  | [d1, d2] => { results := [.lit (.bool false)], args := [d1, d2] }
  | _ => none }
def PlanPartsWrongFalsely : Prop := planPartsRow.holds Tryd.pinned (OpenSpec.ofChange planPartsWrong)

/-- 'almonerlaw08.PlanShares': WHATEVER THE INPUT: true; the input reads as it did. -/
def planSharesSpec : ChangeSpec := { name := "planShares", fn := fun _ => fun
  | [d1, d2, d3] => { results := [.lit (.bool true)], args := [d1, d2, d3] }
  | _ => none }
def planSharesRow : OpenClaim := { program := "ytkfkfcfbcfcbkaadoor", sum := "e02115032797e99e1b9ad26f9208f3e734f6b1f1ec8db96d7bcba1e4c0f60cdb", func := "almoner/almonerlaw08.PlanShares", spec := "planShares", inPlace := ["math/bits.Add64"], named := ["almoner/api.ErrServer", "almoner/api.ErrFull", "almoner/api.ErrTask", "almoner/api.ErrNumber", "almoner/api.ErrOver", "almoner/api.ErrBytes", "almoner/api.ErrSum", "almoner/api.ErrGone", "almoner/api.ErrThere", "almoner/api.ErrLarge", "almoner/api.ErrLost", "almoner/api.ErrTight", "almoner/api.ErrDeep", "almoner/api.ErrBusy", "almoner/api.ErrBallot", "almoner/api.ErrState"], plainKeys := false, apart := false, laid := [("almoner/api.ErrNumber", laid_almoner_api_ErrNumber), ("almoner/api.ErrOver", laid_almoner_api_ErrOver), ("almoner/api.ErrBytes", laid_almoner_api_ErrBytes), ("almoner/api.ErrSum", laid_almoner_api_ErrSum), ("almoner/api.ErrGone", laid_almoner_api_ErrGone), ("almoner/api.ErrThere", laid_almoner_api_ErrThere), ("almoner/api.ErrFull", laid_almoner_api_ErrFull), ("almoner/api.ErrLarge", laid_almoner_api_ErrLarge), ("almoner/api.ErrLost", laid_almoner_api_ErrLost), ("almoner/api.ErrServer", laid_almoner_api_ErrServer), ("almoner/api.ErrTask", laid_almoner_api_ErrTask), ("almoner/api.ErrTight", laid_almoner_api_ErrTight), ("almoner/api.ErrDeep", laid_almoner_api_ErrDeep), ("almoner/api.ErrBusy", laid_almoner_api_ErrBusy), ("almoner/api.ErrBallot", laid_almoner_api_ErrBallot), ("almoner/api.ErrState", laid_almoner_api_ErrState)] }
def PlanSharesSaid : Prop := planSharesRow.holds Tryd.pinned (OpenSpec.ofChange planSharesSpec)

/-- ITS FALSE NEIGHBOUR: 'it returns false'. Refute it at one input. -/
def planSharesWrong : ChangeSpec := { name := "planShares", fn := fun _ => fun
  | [d1, d2, d3] => { results := [.lit (.bool false)], args := [d1, d2, d3] }
  | _ => none }
def PlanSharesWrongFalsely : Prop := planSharesRow.holds Tryd.pinned (OpenSpec.ofChange planSharesWrong)

/-- 'almonerlaw11.DemandPeriods': WHATEVER THE INPUT: true; the input reads as it did. -/
def demandPeriodsSpec : ChangeSpec := { name := "demandPeriods", fn := fun _ => fun
  | [d1, d2, d3] => { results := [.lit (.bool true)], args := [d1, d2, d3] }
  | _ => none }
def demandPeriodsRow : OpenClaim := { program := "ytkfkfcfbcfcbkaadoor", sum := "e02115032797e99e1b9ad26f9208f3e734f6b1f1ec8db96d7bcba1e4c0f60cdb", func := "almoner/almonerlaw11.DemandPeriods", spec := "demandPeriods", inPlace := ["math/bits.Add64"], unfollowed := true, recurses := true, named := ["almoner/api.ErrFull", "almoner/api.ErrServer", "almoner/api.ErrNumber", "almoner/api.ErrTask"], plainKeys := false, apart := false, laid := [("almoner/api.ErrNumber", laid_almoner_api_ErrNumber), ("almoner/api.ErrFull", laid_almoner_api_ErrFull), ("almoner/api.ErrServer", laid_almoner_api_ErrServer), ("almoner/api.ErrTask", laid_almoner_api_ErrTask)] }
def DemandPeriodsSaid : Prop := demandPeriodsRow.holds Tryd.pinned (OpenSpec.ofChange demandPeriodsSpec)

/-- ITS FALSE NEIGHBOUR: 'it returns false'. Refute it at one input. -/
def demandPeriodsWrong : ChangeSpec := { name := "demandPeriods", fn := fun _ => fun
  | [d1, d2, d3] => { results := [.lit (.bool false)], args := [d1, d2, d3] }
  | _ => none }
def DemandPeriodsWrongFalsely : Prop := demandPeriodsRow.holds Tryd.pinned (OpenSpec.ofChange demandPeriodsWrong)

/-- 'almonerlaw11.DemandTasks': WHATEVER THE INPUT: true; the input reads as it did. -/
def demandTasksSpec : ChangeSpec := { name := "demandTasks", fn := fun _ => fun
  | [d1, d2, d3] => { results := [.lit (.bool true)], args := [d1, d2, d3] }
  | _ => none }
def demandTasksRow : OpenClaim := { program := "ytkfkfcfbcfcbkaadoor", sum := "e02115032797e99e1b9ad26f9208f3e734f6b1f1ec8db96d7bcba1e4c0f60cdb", func := "almoner/almonerlaw11.DemandTasks", spec := "demandTasks", inPlace := ["math/bits.Add64"], unfollowed := true, recurses := true, named := ["almoner/api.ErrTask", "almoner/api.ErrNumber", "almoner/api.ErrFull", "almoner/api.ErrServer", "almoner/api.ErrOver", "almoner/api.ErrBytes", "almoner/api.ErrSum", "almoner/api.ErrGone", "almoner/api.ErrThere", "almoner/api.ErrLarge", "almoner/api.ErrLost", "almoner/api.ErrTight", "almoner/api.ErrDeep", "almoner/api.ErrBusy", "almoner/api.ErrBallot", "almoner/api.ErrState"], plainKeys := false, apart := false, laid := [("almoner/api.ErrNumber", laid_almoner_api_ErrNumber), ("almoner/api.ErrOver", laid_almoner_api_ErrOver), ("almoner/api.ErrBytes", laid_almoner_api_ErrBytes), ("almoner/api.ErrSum", laid_almoner_api_ErrSum), ("almoner/api.ErrGone", laid_almoner_api_ErrGone), ("almoner/api.ErrThere", laid_almoner_api_ErrThere), ("almoner/api.ErrFull", laid_almoner_api_ErrFull), ("almoner/api.ErrLarge", laid_almoner_api_ErrLarge), ("almoner/api.ErrLost", laid_almoner_api_ErrLost), ("almoner/api.ErrServer", laid_almoner_api_ErrServer), ("almoner/api.ErrTask", laid_almoner_api_ErrTask), ("almoner/api.ErrTight", laid_almoner_api_ErrTight), ("almoner/api.ErrDeep", laid_almoner_api_ErrDeep), ("almoner/api.ErrBusy", laid_almoner_api_ErrBusy), ("almoner/api.ErrBallot", laid_almoner_api_ErrBallot), ("almoner/api.ErrState", laid_almoner_api_ErrState)] }
def DemandTasksSaid : Prop := demandTasksRow.holds Tryd.pinned (OpenSpec.ofChange demandTasksSpec)

/-- ITS FALSE NEIGHBOUR: 'it returns false'. Refute it at one input. -/
def demandTasksWrong : ChangeSpec := { name := "demandTasks", fn := fun _ => fun
  | [d1, d2, d3] => { results := [.lit (.bool false)], args := [d1, d2, d3] }
  | _ => none }
def DemandTasksWrongFalsely : Prop := demandTasksRow.holds Tryd.pinned (OpenSpec.ofChange demandTasksWrong)

/- THE SECOND FORM. 'bulk': how many values and letters a reading holds, each counted each time it is reached (what is shared counts as often as it is met; a slice's spare places count too). A statement '..UptoSaid' is the law's where the arguments, and the package variables that the reading takes, are together of bulk at most 1048576: NARROWER than '..Said'. Prove '..Said' where nothing that the law and all that it calls make is longer than what came in: it says more and counts as full. Else prove '..UptoSaid'. A law counts once. -/
mutual
def uptoBulk {H : Type} : DataW H → Nat
  | .lit (.string bytes) => bytes.length + 1
  | .lit _ => 1
  | .nil => 1
  | .ptr d => uptoBulk d + 1
  | .slice elems spare => uptoBulkAll elems + uptoBulkAll spare + 1
  | .agg parts => uptoBulkAll parts + 1
  | .iface _ d => uptoBulk d + 1
  | .map entries => uptoBulkEntries entries + 1
  | .held _ => 1
def uptoBulkAll {H : Type} : List (DataW H) → Nat
  | [] => 0
  | d :: r => uptoBulk d + uptoBulkAll r
def uptoBulkEntries {H : Type} : List (Lit × DataW H) → Nat
  | [] => 0
  | x :: r => uptoBulkEntry x + uptoBulkEntries r
def uptoBulkEntry {H : Type} : Lit × DataW H → Nat
  | (.string bytes, d) => bytes.length + uptoBulk d + 1
  | (_, d) => uptoBulk d + 1
 end
def uptoSmall : (H : Type) → List (DataW H) → Bool := fun _ ds => decide (uptoBulkAll ds ≤ 1048576)
def OpenSpec.upto (s : _root_.Go.ChangeSpec) : _root_.Go.OpenSpec := { _root_.Go.OpenSpec.ofChange s with cond := some uptoSmall }

/-- 'almonerlaw08.PlanCounts', WHERE WHAT IT READS IS OF BULK AT MOST 1048576: true; the input reads as it did. -/
def planCountsUptoRow : OpenClaim := { program := "ytkfkfcfbcfcbkaadoor", sum := "e02115032797e99e1b9ad26f9208f3e734f6b1f1ec8db96d7bcba1e4c0f60cdb", func := "almoner/almonerlaw08.PlanCounts", spec := "planCounts", inPlace := ["math/bits.Add64"], named := ["almoner/api.ErrServer", "almoner/api.ErrFull"], plainKeys := false, apart := false, laid := [("almoner/api.ErrFull", laid_almoner_api_ErrFull), ("almoner/api.ErrServer", laid_almoner_api_ErrServer)], narrowed := true }
def PlanCountsUptoSaid : Prop := planCountsUptoRow.holds Tryd.pinned (OpenSpec.upto planCountsSpec)

/-- 'almonerlaw08.PlanLegal', WHERE WHAT IT READS IS OF BULK AT MOST 1048576: true; the input reads as it did. -/
def planLegalUptoRow : OpenClaim := { program := "ytkfkfcfbcfcbkaadoor", sum := "e02115032797e99e1b9ad26f9208f3e734f6b1f1ec8db96d7bcba1e4c0f60cdb", func := "almoner/almonerlaw08.PlanLegal", spec := "planLegal", inPlace := ["math/bits.Add64"], named := ["almoner/api.ErrServer", "almoner/api.ErrTask", "almoner/api.ErrFull"], plainKeys := false, apart := false, laid := [("almoner/api.ErrFull", laid_almoner_api_ErrFull), ("almoner/api.ErrServer", laid_almoner_api_ErrServer), ("almoner/api.ErrTask", laid_almoner_api_ErrTask)], narrowed := true }
def PlanLegalUptoSaid : Prop := planLegalUptoRow.holds Tryd.pinned (OpenSpec.upto planLegalSpec)

/-- 'almonerlaw08.PlanOrders', WHERE WHAT IT READS IS OF BULK AT MOST 1048576: true; the input reads as it did. -/
def planOrdersUptoRow : OpenClaim := { program := "ytkfkfcfbcfcbkaadoor", sum := "e02115032797e99e1b9ad26f9208f3e734f6b1f1ec8db96d7bcba1e4c0f60cdb", func := "almoner/almonerlaw08.PlanOrders", spec := "planOrders", inPlace := ["math/bits.Add64"], named := ["almoner/api.ErrServer", "almoner/api.ErrFull"], plainKeys := false, apart := false, laid := [("almoner/api.ErrFull", laid_almoner_api_ErrFull), ("almoner/api.ErrServer", laid_almoner_api_ErrServer)], narrowed := true }
def PlanOrdersUptoSaid : Prop := planOrdersUptoRow.holds Tryd.pinned (OpenSpec.upto planOrdersSpec)

/-- 'almonerlaw11.DemandSplits', WHERE WHAT IT READS IS OF BULK AT MOST 1048576: true; the input reads as it did. -/
def demandSplitsUptoRow : OpenClaim := { program := "ytkfkfcfbcfcbkaadoor", sum := "e02115032797e99e1b9ad26f9208f3e734f6b1f1ec8db96d7bcba1e4c0f60cdb", func := "almoner/almonerlaw11.DemandSplits", spec := "demandSplits", inPlace := ["math/bits.Add64"], unfollowed := true, recurses := true, named := ["almoner/api.ErrFull", "almoner/api.ErrServer", "almoner/api.ErrNumber"], plainKeys := false, apart := false, laid := [("almoner/api.ErrNumber", laid_almoner_api_ErrNumber), ("almoner/api.ErrFull", laid_almoner_api_ErrFull), ("almoner/api.ErrServer", laid_almoner_api_ErrServer)], narrowed := true }
def DemandSplitsUptoSaid : Prop := demandSplitsUptoRow.holds Tryd.pinned (OpenSpec.upto demandSplitsSpec)

/-- 'almonerlaw11.DemandServers', WHERE WHAT IT READS IS OF BULK AT MOST 1048576: true; the input reads as it did. -/
def demandServersUptoRow : OpenClaim := { program := "ytkfkfcfbcfcbkaadoor", sum := "e02115032797e99e1b9ad26f9208f3e734f6b1f1ec8db96d7bcba1e4c0f60cdb", func := "almoner/almonerlaw11.DemandServers", spec := "demandServers", inPlace := ["math/bits.Add64"], unfollowed := true, recurses := true, named := ["almoner/api.ErrServer", "almoner/api.ErrNumber", "almoner/api.ErrFull", "almoner/api.ErrOver", "almoner/api.ErrBytes", "almoner/api.ErrSum", "almoner/api.ErrGone", "almoner/api.ErrThere", "almoner/api.ErrLarge", "almoner/api.ErrLost", "almoner/api.ErrTask", "almoner/api.ErrTight", "almoner/api.ErrDeep", "almoner/api.ErrBusy", "almoner/api.ErrBallot", "almoner/api.ErrState"], plainKeys := false, apart := false, laid := [("almoner/api.ErrNumber", laid_almoner_api_ErrNumber), ("almoner/api.ErrOver", laid_almoner_api_ErrOver), ("almoner/api.ErrBytes", laid_almoner_api_ErrBytes), ("almoner/api.ErrSum", laid_almoner_api_ErrSum), ("almoner/api.ErrGone", laid_almoner_api_ErrGone), ("almoner/api.ErrThere", laid_almoner_api_ErrThere), ("almoner/api.ErrFull", laid_almoner_api_ErrFull), ("almoner/api.ErrLarge", laid_almoner_api_ErrLarge), ("almoner/api.ErrLost", laid_almoner_api_ErrLost), ("almoner/api.ErrServer", laid_almoner_api_ErrServer), ("almoner/api.ErrTask", laid_almoner_api_ErrTask), ("almoner/api.ErrTight", laid_almoner_api_ErrTight), ("almoner/api.ErrDeep", laid_almoner_api_ErrDeep), ("almoner/api.ErrBusy", laid_almoner_api_ErrBusy), ("almoner/api.ErrBallot", laid_almoner_api_ErrBallot), ("almoner/api.ErrState", laid_almoner_api_ErrState)], narrowed := true }
def DemandServersUptoSaid : Prop := demandServersUptoRow.holds Tryd.pinned (OpenSpec.upto demandServersSpec)

/-- 'almonerlaw11.DemandGrows', WHERE WHAT IT READS IS OF BULK AT MOST 1048576: true; the input reads as it did. -/
def demandGrowsUptoRow : OpenClaim := { program := "ytkfkfcfbcfcbkaadoor", sum := "e02115032797e99e1b9ad26f9208f3e734f6b1f1ec8db96d7bcba1e4c0f60cdb", func := "almoner/almonerlaw11.DemandGrows", spec := "demandGrows", inPlace := ["math/bits.Add64"], unfollowed := true, recurses := true, named := ["almoner/api.ErrFull", "almoner/api.ErrServer", "almoner/api.ErrNumber", "almoner/api.ErrOver", "almoner/api.ErrBytes", "almoner/api.ErrSum", "almoner/api.ErrGone", "almoner/api.ErrThere", "almoner/api.ErrLarge", "almoner/api.ErrLost", "almoner/api.ErrTask", "almoner/api.ErrTight", "almoner/api.ErrDeep", "almoner/api.ErrBusy", "almoner/api.ErrBallot", "almoner/api.ErrState"], plainKeys := false, apart := false, laid := [("almoner/api.ErrNumber", laid_almoner_api_ErrNumber), ("almoner/api.ErrOver", laid_almoner_api_ErrOver), ("almoner/api.ErrBytes", laid_almoner_api_ErrBytes), ("almoner/api.ErrSum", laid_almoner_api_ErrSum), ("almoner/api.ErrGone", laid_almoner_api_ErrGone), ("almoner/api.ErrThere", laid_almoner_api_ErrThere), ("almoner/api.ErrFull", laid_almoner_api_ErrFull), ("almoner/api.ErrLarge", laid_almoner_api_ErrLarge), ("almoner/api.ErrLost", laid_almoner_api_ErrLost), ("almoner/api.ErrServer", laid_almoner_api_ErrServer), ("almoner/api.ErrTask", laid_almoner_api_ErrTask), ("almoner/api.ErrTight", laid_almoner_api_ErrTight), ("almoner/api.ErrDeep", laid_almoner_api_ErrDeep), ("almoner/api.ErrBusy", laid_almoner_api_ErrBusy), ("almoner/api.ErrBallot", laid_almoner_api_ErrBallot), ("almoner/api.ErrState", laid_almoner_api_ErrState)], narrowed := true }
def DemandGrowsUptoSaid : Prop := demandGrowsUptoRow.holds Tryd.pinned (OpenSpec.upto demandGrowsSpec)

/-- 'almonerlaw11.DemandSteps', WHERE WHAT IT READS IS OF BULK AT MOST 1048576: true; the input reads as it did. -/
def demandStepsUptoRow : OpenClaim := { program := "ytkfkfcfbcfcbkaadoor", sum := "e02115032797e99e1b9ad26f9208f3e734f6b1f1ec8db96d7bcba1e4c0f60cdb", func := "almoner/almonerlaw11.DemandSteps", spec := "demandSteps", inPlace := ["math/bits.Add64"], unfollowed := true, recurses := true, named := ["almoner/api.ErrFull", "almoner/api.ErrServer", "almoner/api.ErrNumber"], plainKeys := false, apart := false, laid := [("almoner/api.ErrNumber", laid_almoner_api_ErrNumber), ("almoner/api.ErrFull", laid_almoner_api_ErrFull), ("almoner/api.ErrServer", laid_almoner_api_ErrServer)], narrowed := true }
def DemandStepsUptoSaid : Prop := demandStepsUptoRow.holds Tryd.pinned (OpenSpec.upto demandStepsSpec)

/-- 'almonerlaw08.PlanParts', WHERE WHAT IT READS IS OF BULK AT MOST 1048576: true; the input reads as it did. -/
def planPartsUptoRow : OpenClaim := { program := "ytkfkfcfbcfcbkaadoor", sum := "e02115032797e99e1b9ad26f9208f3e734f6b1f1ec8db96d7bcba1e4c0f60cdb", func := "almoner/almonerlaw08.PlanParts", spec := "planParts", inPlace := ["math/bits.Add64"], named := ["almoner/api.ErrServer", "almoner/api.ErrFull"], plainKeys := false, apart := false, laid := [("almoner/api.ErrFull", laid_almoner_api_ErrFull), ("almoner/api.ErrServer", laid_almoner_api_ErrServer)], narrowed := true }
def PlanPartsUptoSaid : Prop := planPartsUptoRow.holds Tryd.pinned (OpenSpec.upto planPartsSpec)

/-- 'almonerlaw08.PlanShares', WHERE WHAT IT READS IS OF BULK AT MOST 1048576: true; the input reads as it did. -/
def planSharesUptoRow : OpenClaim := { program := "ytkfkfcfbcfcbkaadoor", sum := "e02115032797e99e1b9ad26f9208f3e734f6b1f1ec8db96d7bcba1e4c0f60cdb", func := "almoner/almonerlaw08.PlanShares", spec := "planShares", inPlace := ["math/bits.Add64"], named := ["almoner/api.ErrServer", "almoner/api.ErrFull", "almoner/api.ErrTask", "almoner/api.ErrNumber", "almoner/api.ErrOver", "almoner/api.ErrBytes", "almoner/api.ErrSum", "almoner/api.ErrGone", "almoner/api.ErrThere", "almoner/api.ErrLarge", "almoner/api.ErrLost", "almoner/api.ErrTight", "almoner/api.ErrDeep", "almoner/api.ErrBusy", "almoner/api.ErrBallot", "almoner/api.ErrState"], plainKeys := false, apart := false, laid := [("almoner/api.ErrNumber", laid_almoner_api_ErrNumber), ("almoner/api.ErrOver", laid_almoner_api_ErrOver), ("almoner/api.ErrBytes", laid_almoner_api_ErrBytes), ("almoner/api.ErrSum", laid_almoner_api_ErrSum), ("almoner/api.ErrGone", laid_almoner_api_ErrGone), ("almoner/api.ErrThere", laid_almoner_api_ErrThere), ("almoner/api.ErrFull", laid_almoner_api_ErrFull), ("almoner/api.ErrLarge", laid_almoner_api_ErrLarge), ("almoner/api.ErrLost", laid_almoner_api_ErrLost), ("almoner/api.ErrServer", laid_almoner_api_ErrServer), ("almoner/api.ErrTask", laid_almoner_api_ErrTask), ("almoner/api.ErrTight", laid_almoner_api_ErrTight), ("almoner/api.ErrDeep", laid_almoner_api_ErrDeep), ("almoner/api.ErrBusy", laid_almoner_api_ErrBusy), ("almoner/api.ErrBallot", laid_almoner_api_ErrBallot), ("almoner/api.ErrState", laid_almoner_api_ErrState)], narrowed := true }
def PlanSharesUptoSaid : Prop := planSharesUptoRow.holds Tryd.pinned (OpenSpec.upto planSharesSpec)

/-- 'almonerlaw11.DemandPeriods', WHERE WHAT IT READS IS OF BULK AT MOST 1048576: true; the input reads as it did. -/
def demandPeriodsUptoRow : OpenClaim := { program := "ytkfkfcfbcfcbkaadoor", sum := "e02115032797e99e1b9ad26f9208f3e734f6b1f1ec8db96d7bcba1e4c0f60cdb", func := "almoner/almonerlaw11.DemandPeriods", spec := "demandPeriods", inPlace := ["math/bits.Add64"], unfollowed := true, recurses := true, named := ["almoner/api.ErrFull", "almoner/api.ErrServer", "almoner/api.ErrNumber", "almoner/api.ErrTask"], plainKeys := false, apart := false, laid := [("almoner/api.ErrNumber", laid_almoner_api_ErrNumber), ("almoner/api.ErrFull", laid_almoner_api_ErrFull), ("almoner/api.ErrServer", laid_almoner_api_ErrServer), ("almoner/api.ErrTask", laid_almoner_api_ErrTask)], narrowed := true }
def DemandPeriodsUptoSaid : Prop := demandPeriodsUptoRow.holds Tryd.pinned (OpenSpec.upto demandPeriodsSpec)

/-- 'almonerlaw11.DemandTasks', WHERE WHAT IT READS IS OF BULK AT MOST 1048576: true; the input reads as it did. -/
def demandTasksUptoRow : OpenClaim := { program := "ytkfkfcfbcfcbkaadoor", sum := "e02115032797e99e1b9ad26f9208f3e734f6b1f1ec8db96d7bcba1e4c0f60cdb", func := "almoner/almonerlaw11.DemandTasks", spec := "demandTasks", inPlace := ["math/bits.Add64"], unfollowed := true, recurses := true, named := ["almoner/api.ErrTask", "almoner/api.ErrNumber", "almoner/api.ErrFull", "almoner/api.ErrServer", "almoner/api.ErrOver", "almoner/api.ErrBytes", "almoner/api.ErrSum", "almoner/api.ErrGone", "almoner/api.ErrThere", "almoner/api.ErrLarge", "almoner/api.ErrLost", "almoner/api.ErrTight", "almoner/api.ErrDeep", "almoner/api.ErrBusy", "almoner/api.ErrBallot", "almoner/api.ErrState"], plainKeys := false, apart := false, laid := [("almoner/api.ErrNumber", laid_almoner_api_ErrNumber), ("almoner/api.ErrOver", laid_almoner_api_ErrOver), ("almoner/api.ErrBytes", laid_almoner_api_ErrBytes), ("almoner/api.ErrSum", laid_almoner_api_ErrSum), ("almoner/api.ErrGone", laid_almoner_api_ErrGone), ("almoner/api.ErrThere", laid_almoner_api_ErrThere), ("almoner/api.ErrFull", laid_almoner_api_ErrFull), ("almoner/api.ErrLarge", laid_almoner_api_ErrLarge), ("almoner/api.ErrLost", laid_almoner_api_ErrLost), ("almoner/api.ErrServer", laid_almoner_api_ErrServer), ("almoner/api.ErrTask", laid_almoner_api_ErrTask), ("almoner/api.ErrTight", laid_almoner_api_ErrTight), ("almoner/api.ErrDeep", laid_almoner_api_ErrDeep), ("almoner/api.ErrBusy", laid_almoner_api_ErrBusy), ("almoner/api.ErrBallot", laid_almoner_api_ErrBallot), ("almoner/api.ErrState", laid_almoner_api_ErrState)], narrowed := true }
def DemandTasksUptoSaid : Prop := demandTasksUptoRow.holds Tryd.pinned (OpenSpec.upto demandTasksSpec)

end Rows
end Go.Proofs.YtkfkfcfbcfcbkaaDoor
