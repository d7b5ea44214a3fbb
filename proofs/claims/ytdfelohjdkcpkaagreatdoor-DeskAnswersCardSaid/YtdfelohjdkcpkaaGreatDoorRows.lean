/-
  NARROWER THAN 'FOR EVERY INPUT', by the rows' own cells (each row's printed sentence says how): TreePlays: laid · DeskAnswers: laid · HostOrders: laid · HostAlone: laid · HostSupplies: laid · HostDeadlines: laid · HostPaths: laid · HostTwins: laid · HostPlays: laid.
  DERIVED. THE GIVEN ROWS OF THIS SEAT. 9 by the template 'for every input the law returns true; each argument reads behind the call as it read before'; 0 by the template 'total and deterministic' (their statements: YtdfelohjdkcpkaaGreatDoorTotals.lean).
  GIVEN WITH THE SEED: the statements are not yours to turn. If you find one false, say at which input.
  Laid BY PROGRAM, IN A SANDBOX (cutbox-rows.mjs): the forced cells as the released guide's own fill.sh prints them over the translation 4021c8c0d5793865… (all of the seat's roots in one cut). By AI agents, Wed Nov 11 2026. No macro, syntax, notation, axiom, sorry.
-/
import Derived.Test.YtdfelohjdkcpkaaGreatDoorChecked
import GoSem.Claim
import GoSem.ClaimJoined
import GoSem.ClaimMapViews
import Derived.JoinedTies
import Derived.KernelRfl
namespace Go.Proofs.YtdfelohjdkcpkaaGreatDoor
/- THE CELL 'sum', in the pinned program and in every row, IS THE sha256 OF THE DUMP (.gsa) THAT YtdfelohjdkcpkaaGreatDoorProg.lean LOADS. Nothing in Lean hashes anything: it is a label: what it is worth is what the hold of that sum in a sandbox is worth. -/
noncomputable def Tryz.pinned : Pinned := { name := "ytdfelohjdkcpkaagreatdoor", sum := "4021c8c0d5793865547d5b0e4f1d3fae3043470db119247541e8ed16d2d9626c", checked := Tryz.checked }
namespace Rows
def none {H : Type} : Left H := { results := [], args := [] }

/- WHAT THE LISTED PACKAGE-LEVEL VARIABLES READ AS WHEN THE CALL BEGINS. Each datum BY PROGRAM (the guide's laid-datum.mjs) off the statement by which the dump's own 'gosem.cut.vars' lays the variable. In a bare row this is a premise. The card (YtdfelohjdkcpkaaGreatDoorCards.lean) ties it to the program's text. -/
def laid_almoner_api_ErrNumber {H : Type} : DataW H := .iface "*errors.errorString" (.ptr (.agg [.lit (.string [97, 108, 109, 111, 110, 101, 114, 58, 32, 110, 117, 109, 98, 101, 114])]))
def laid_almoner_api_ErrFull {H : Type} : DataW H := .iface "*errors.errorString" (.ptr (.agg [.lit (.string [97, 108, 109, 111, 110, 101, 114, 58, 32, 102, 117, 108, 108])]))
def laid_almoner_api_ErrServer {H : Type} : DataW H := .iface "*errors.errorString" (.ptr (.agg [.lit (.string [97, 108, 109, 111, 110, 101, 114, 58, 32, 115, 101, 114, 118, 101, 114])]))
def laid_almoner_api_ErrTask {H : Type} : DataW H := .iface "*errors.errorString" (.ptr (.agg [.lit (.string [97, 108, 109, 111, 110, 101, 114, 58, 32, 116, 97, 115, 107])]))
def laid_almoner_api_ErrTight {H : Type} : DataW H := .iface "*errors.errorString" (.ptr (.agg [.lit (.string [97, 108, 109, 111, 110, 101, 114, 58, 32, 116, 105, 103, 104, 116])]))
def laid_almoner_api_ErrGone {H : Type} : DataW H := .iface "*errors.errorString" (.ptr (.agg [.lit (.string [97, 108, 109, 111, 110, 101, 114, 58, 32, 103, 111, 110, 101])]))
def laid_almoner_api_ErrLarge {H : Type} : DataW H := .iface "*errors.errorString" (.ptr (.agg [.lit (.string [97, 108, 109, 111, 110, 101, 114, 58, 32, 108, 97, 114, 103, 101])]))
def laid_almoner_api_ErrState {H : Type} : DataW H := .iface "*errors.errorString" (.ptr (.agg [.lit (.string [97, 108, 109, 111, 110, 101, 114, 58, 32, 115, 116, 97, 116, 101])]))
def laid_almoner_api_ErrBusy {H : Type} : DataW H := .iface "*errors.errorString" (.ptr (.agg [.lit (.string [97, 108, 109, 111, 110, 101, 114, 58, 32, 98, 117, 115, 121])]))
def laid_almoner_api_ErrBytes {H : Type} : DataW H := .iface "*errors.errorString" (.ptr (.agg [.lit (.string [97, 108, 109, 111, 110, 101, 114, 58, 32, 98, 121, 116, 101, 115])]))
def laid_almoner_api_ErrOver {H : Type} : DataW H := .iface "*errors.errorString" (.ptr (.agg [.lit (.string [97, 108, 109, 111, 110, 101, 114, 58, 32, 111, 118, 101, 114])]))
def laid_almoner_api_ErrSum {H : Type} : DataW H := .iface "*errors.errorString" (.ptr (.agg [.lit (.string [97, 108, 109, 111, 110, 101, 114, 58, 32, 115, 117, 109])]))
def laid_almoner_api_ErrThere {H : Type} : DataW H := .iface "*errors.errorString" (.ptr (.agg [.lit (.string [97, 108, 109, 111, 110, 101, 114, 58, 32, 116, 104, 101, 114, 101])]))
def laid_almoner_api_ErrLost {H : Type} : DataW H := .iface "*errors.errorString" (.ptr (.agg [.lit (.string [97, 108, 109, 111, 110, 101, 114, 58, 32, 108, 111, 115, 116])]))
def laid_almoner_api_ErrDeep {H : Type} : DataW H := .iface "*errors.errorString" (.ptr (.agg [.lit (.string [97, 108, 109, 111, 110, 101, 114, 58, 32, 100, 101, 101, 112])]))
def laid_almoner_api_ErrBallot {H : Type} : DataW H := .iface "*errors.errorString" (.ptr (.agg [.lit (.string [97, 108, 109, 111, 110, 101, 114, 58, 32, 98, 97, 108, 108, 111, 116])]))

/-- 'almonerlaw13.TreePlays': WHATEVER THE INPUT: true; the input reads as it did. -/
def treePlaysSpec : ChangeSpec := { name := "treePlays", fn := fun _ => fun
  | [d] => { results := [.lit (.bool true)], args := [d] }
  | _ => none }
def treePlaysRow : OpenClaim := { program := "ytdfelohjdkcpkaagreatdoor", sum := "4021c8c0d5793865547d5b0e4f1d3fae3043470db119247541e8ed16d2d9626c", func := "almoner/almonerlaw13.TreePlays", spec := "treePlays", inPlace := ["math/bits.Add64"], unfollowed := true, recurses := true, named := ["almoner/api.ErrServer", "almoner/api.ErrTight", "almoner/api.ErrFull", "almoner/api.ErrNumber", "almoner/api.ErrTask"], apart := false, laid := [("almoner/api.ErrNumber", laid_almoner_api_ErrNumber), ("almoner/api.ErrFull", laid_almoner_api_ErrFull), ("almoner/api.ErrServer", laid_almoner_api_ErrServer), ("almoner/api.ErrTask", laid_almoner_api_ErrTask), ("almoner/api.ErrTight", laid_almoner_api_ErrTight)] }
def TreePlaysSaid : Prop := treePlaysRow.holds Tryz.pinned (OpenSpec.ofChange treePlaysSpec)

/-- ITS FALSE NEIGHBOUR: 'it returns false'. Refute it at one input. -/
def treePlaysWrong : ChangeSpec := { name := "treePlays", fn := fun _ => fun
  | [d] => { results := [.lit (.bool false)], args := [d] }
  | _ => none }
def TreePlaysWrongFalsely : Prop := treePlaysRow.holds Tryz.pinned (OpenSpec.ofChange treePlaysWrong)

/-- 'almonerlaw20.DeskAnswers': WHATEVER THE INPUT: true; the input reads as it did. -/
def deskAnswersSpec : ChangeSpec := { name := "deskAnswers", fn := fun _ => fun
  | [d1, d2] => { results := [.lit (.bool true)], args := [d1, d2] }
  | _ => none }
def deskAnswersRow : OpenClaim := { program := "ytdfelohjdkcpkaagreatdoor", sum := "4021c8c0d5793865547d5b0e4f1d3fae3043470db119247541e8ed16d2d9626c", func := "almoner/almonerlaw20.DeskAnswers", spec := "deskAnswers", inPlace := ["math/bits.Add64"], unfollowed := true, recurses := true, named := ["almoner/api.ErrState", "almoner/api.ErrNumber", "almoner/api.ErrLarge", "almoner/api.ErrServer", "almoner/api.ErrTight", "almoner/api.ErrFull", "almoner/api.ErrTask", "almoner/api.ErrGone"], apart := false, laid := [("almoner/api.ErrNumber", laid_almoner_api_ErrNumber), ("almoner/api.ErrGone", laid_almoner_api_ErrGone), ("almoner/api.ErrFull", laid_almoner_api_ErrFull), ("almoner/api.ErrLarge", laid_almoner_api_ErrLarge), ("almoner/api.ErrServer", laid_almoner_api_ErrServer), ("almoner/api.ErrTask", laid_almoner_api_ErrTask), ("almoner/api.ErrTight", laid_almoner_api_ErrTight), ("almoner/api.ErrState", laid_almoner_api_ErrState)] }
def DeskAnswersSaid : Prop := deskAnswersRow.holds Tryz.pinned (OpenSpec.ofChange deskAnswersSpec)

/-- ITS FALSE NEIGHBOUR: 'it returns false'. Refute it at one input. -/
def deskAnswersWrong : ChangeSpec := { name := "deskAnswers", fn := fun _ => fun
  | [d1, d2] => { results := [.lit (.bool false)], args := [d1, d2] }
  | _ => none }
def DeskAnswersWrongFalsely : Prop := deskAnswersRow.holds Tryz.pinned (OpenSpec.ofChange deskAnswersWrong)

/-- 'almonerlaw16.HostOrders': WHATEVER THE INPUT: true; the input reads as it did. -/
def hostOrdersSpec : ChangeSpec := { name := "hostOrders", fn := fun _ => fun
  | [d] => { results := [.lit (.bool true)], args := [d] }
  | _ => none }
def hostOrdersRow : OpenClaim := { program := "ytdfelohjdkcpkaagreatdoor", sum := "4021c8c0d5793865547d5b0e4f1d3fae3043470db119247541e8ed16d2d9626c", func := "almoner/almonerlaw16.HostOrders", spec := "hostOrders", inPlace := ["math/bits.Add64"], unfollowed := true, recurses := true, named := ["almoner/api.ErrServer", "almoner/api.ErrTight", "almoner/api.ErrFull", "almoner/api.ErrNumber", "almoner/api.ErrTask", "almoner/api.ErrState", "almoner/api.ErrGone", "almoner/api.ErrBusy"], apart := false, laid := [("almoner/api.ErrNumber", laid_almoner_api_ErrNumber), ("almoner/api.ErrGone", laid_almoner_api_ErrGone), ("almoner/api.ErrFull", laid_almoner_api_ErrFull), ("almoner/api.ErrServer", laid_almoner_api_ErrServer), ("almoner/api.ErrTask", laid_almoner_api_ErrTask), ("almoner/api.ErrTight", laid_almoner_api_ErrTight), ("almoner/api.ErrBusy", laid_almoner_api_ErrBusy), ("almoner/api.ErrState", laid_almoner_api_ErrState)] }
def HostOrdersSaid : Prop := hostOrdersRow.holds Tryz.pinned (OpenSpec.ofChange hostOrdersSpec)

/-- ITS FALSE NEIGHBOUR: 'it returns false'. Refute it at one input. -/
def hostOrdersWrong : ChangeSpec := { name := "hostOrders", fn := fun _ => fun
  | [d] => { results := [.lit (.bool false)], args := [d] }
  | _ => none }
def HostOrdersWrongFalsely : Prop := hostOrdersRow.holds Tryz.pinned (OpenSpec.ofChange hostOrdersWrong)

/-- 'almonerlaw16.HostAlone': WHATEVER THE INPUT: true; the input reads as it did. -/
def hostAloneSpec : ChangeSpec := { name := "hostAlone", fn := fun _ => fun
  | [d1, d2, d3] => { results := [.lit (.bool true)], args := [d1, d2, d3] }
  | _ => none }
def hostAloneRow : OpenClaim := { program := "ytdfelohjdkcpkaagreatdoor", sum := "4021c8c0d5793865547d5b0e4f1d3fae3043470db119247541e8ed16d2d9626c", func := "almoner/almonerlaw16.HostAlone", spec := "hostAlone", inPlace := ["math/bits.Add64"], unfollowed := true, recurses := true, named := ["almoner/api.ErrServer", "almoner/api.ErrTight", "almoner/api.ErrFull", "almoner/api.ErrNumber", "almoner/api.ErrTask", "almoner/api.ErrState", "almoner/api.ErrGone", "almoner/api.ErrBusy"], apart := false, laid := [("almoner/api.ErrNumber", laid_almoner_api_ErrNumber), ("almoner/api.ErrGone", laid_almoner_api_ErrGone), ("almoner/api.ErrFull", laid_almoner_api_ErrFull), ("almoner/api.ErrServer", laid_almoner_api_ErrServer), ("almoner/api.ErrTask", laid_almoner_api_ErrTask), ("almoner/api.ErrTight", laid_almoner_api_ErrTight), ("almoner/api.ErrBusy", laid_almoner_api_ErrBusy), ("almoner/api.ErrState", laid_almoner_api_ErrState)] }
def HostAloneSaid : Prop := hostAloneRow.holds Tryz.pinned (OpenSpec.ofChange hostAloneSpec)

/-- ITS FALSE NEIGHBOUR: 'it returns false'. Refute it at one input. -/
def hostAloneWrong : ChangeSpec := { name := "hostAlone", fn := fun _ => fun
  | [d1, d2, d3] => { results := [.lit (.bool false)], args := [d1, d2, d3] }
  | _ => none }
def HostAloneWrongFalsely : Prop := hostAloneRow.holds Tryz.pinned (OpenSpec.ofChange hostAloneWrong)

/-- 'almonerlaw16.HostSupplies': WHATEVER THE INPUT: true; the input reads as it did. -/
def hostSuppliesSpec : ChangeSpec := { name := "hostSupplies", fn := fun _ => fun
  | [d] => { results := [.lit (.bool true)], args := [d] }
  | _ => none }
def hostSuppliesRow : OpenClaim := { program := "ytdfelohjdkcpkaagreatdoor", sum := "4021c8c0d5793865547d5b0e4f1d3fae3043470db119247541e8ed16d2d9626c", func := "almoner/almonerlaw16.HostSupplies", spec := "hostSupplies", inPlace := ["math/bits.Add64"], unfollowed := true, recurses := true, named := ["almoner/api.ErrServer", "almoner/api.ErrTight", "almoner/api.ErrFull", "almoner/api.ErrNumber", "almoner/api.ErrTask", "almoner/api.ErrState", "almoner/api.ErrGone", "almoner/api.ErrBusy", "almoner/api.ErrBytes"], apart := false, laid := [("almoner/api.ErrNumber", laid_almoner_api_ErrNumber), ("almoner/api.ErrBytes", laid_almoner_api_ErrBytes), ("almoner/api.ErrGone", laid_almoner_api_ErrGone), ("almoner/api.ErrFull", laid_almoner_api_ErrFull), ("almoner/api.ErrServer", laid_almoner_api_ErrServer), ("almoner/api.ErrTask", laid_almoner_api_ErrTask), ("almoner/api.ErrTight", laid_almoner_api_ErrTight), ("almoner/api.ErrBusy", laid_almoner_api_ErrBusy), ("almoner/api.ErrState", laid_almoner_api_ErrState)] }
def HostSuppliesSaid : Prop := hostSuppliesRow.holds Tryz.pinned (OpenSpec.ofChange hostSuppliesSpec)

/-- ITS FALSE NEIGHBOUR: 'it returns false'. Refute it at one input. -/
def hostSuppliesWrong : ChangeSpec := { name := "hostSupplies", fn := fun _ => fun
  | [d] => { results := [.lit (.bool false)], args := [d] }
  | _ => none }
def HostSuppliesWrongFalsely : Prop := hostSuppliesRow.holds Tryz.pinned (OpenSpec.ofChange hostSuppliesWrong)

/-- 'almonerlaw16.HostDeadlines': WHATEVER THE INPUT: true; the input reads as it did. -/
def hostDeadlinesSpec : ChangeSpec := { name := "hostDeadlines", fn := fun _ => fun
  | [d] => { results := [.lit (.bool true)], args := [d] }
  | _ => none }
def hostDeadlinesRow : OpenClaim := { program := "ytdfelohjdkcpkaagreatdoor", sum := "4021c8c0d5793865547d5b0e4f1d3fae3043470db119247541e8ed16d2d9626c", func := "almoner/almonerlaw16.HostDeadlines", spec := "hostDeadlines", inPlace := ["math/bits.Add64"], unfollowed := true, recurses := true, named := ["almoner/api.ErrServer", "almoner/api.ErrTight", "almoner/api.ErrFull", "almoner/api.ErrNumber", "almoner/api.ErrTask", "almoner/api.ErrState", "almoner/api.ErrGone", "almoner/api.ErrBusy", "almoner/api.ErrBytes"], apart := false, laid := [("almoner/api.ErrNumber", laid_almoner_api_ErrNumber), ("almoner/api.ErrBytes", laid_almoner_api_ErrBytes), ("almoner/api.ErrGone", laid_almoner_api_ErrGone), ("almoner/api.ErrFull", laid_almoner_api_ErrFull), ("almoner/api.ErrServer", laid_almoner_api_ErrServer), ("almoner/api.ErrTask", laid_almoner_api_ErrTask), ("almoner/api.ErrTight", laid_almoner_api_ErrTight), ("almoner/api.ErrBusy", laid_almoner_api_ErrBusy), ("almoner/api.ErrState", laid_almoner_api_ErrState)] }
def HostDeadlinesSaid : Prop := hostDeadlinesRow.holds Tryz.pinned (OpenSpec.ofChange hostDeadlinesSpec)

/-- ITS FALSE NEIGHBOUR: 'it returns false'. Refute it at one input. -/
def hostDeadlinesWrong : ChangeSpec := { name := "hostDeadlines", fn := fun _ => fun
  | [d] => { results := [.lit (.bool false)], args := [d] }
  | _ => none }
def HostDeadlinesWrongFalsely : Prop := hostDeadlinesRow.holds Tryz.pinned (OpenSpec.ofChange hostDeadlinesWrong)

/-- 'almonerlaw16.HostPaths': WHATEVER THE INPUT: true; the input reads as it did. -/
def hostPathsSpec : ChangeSpec := { name := "hostPaths", fn := fun _ => fun
  | [d] => { results := [.lit (.bool true)], args := [d] }
  | _ => none }
def hostPathsRow : OpenClaim := { program := "ytdfelohjdkcpkaagreatdoor", sum := "4021c8c0d5793865547d5b0e4f1d3fae3043470db119247541e8ed16d2d9626c", func := "almoner/almonerlaw16.HostPaths", spec := "hostPaths", inPlace := ["math/bits.Add64"], unfollowed := true, recurses := true, named := ["almoner/api.ErrServer", "almoner/api.ErrTight", "almoner/api.ErrFull", "almoner/api.ErrNumber", "almoner/api.ErrTask", "almoner/api.ErrState", "almoner/api.ErrGone", "almoner/api.ErrBusy", "almoner/api.ErrBytes"], apart := false, laid := [("almoner/api.ErrNumber", laid_almoner_api_ErrNumber), ("almoner/api.ErrBytes", laid_almoner_api_ErrBytes), ("almoner/api.ErrGone", laid_almoner_api_ErrGone), ("almoner/api.ErrFull", laid_almoner_api_ErrFull), ("almoner/api.ErrServer", laid_almoner_api_ErrServer), ("almoner/api.ErrTask", laid_almoner_api_ErrTask), ("almoner/api.ErrTight", laid_almoner_api_ErrTight), ("almoner/api.ErrBusy", laid_almoner_api_ErrBusy), ("almoner/api.ErrState", laid_almoner_api_ErrState)] }
def HostPathsSaid : Prop := hostPathsRow.holds Tryz.pinned (OpenSpec.ofChange hostPathsSpec)

/-- ITS FALSE NEIGHBOUR: 'it returns false'. Refute it at one input. -/
def hostPathsWrong : ChangeSpec := { name := "hostPaths", fn := fun _ => fun
  | [d] => { results := [.lit (.bool false)], args := [d] }
  | _ => none }
def HostPathsWrongFalsely : Prop := hostPathsRow.holds Tryz.pinned (OpenSpec.ofChange hostPathsWrong)

/-- 'almonerlaw16.HostTwins': WHATEVER THE INPUT: true; the input reads as it did. -/
def hostTwinsSpec : ChangeSpec := { name := "hostTwins", fn := fun _ => fun
  | [d] => { results := [.lit (.bool true)], args := [d] }
  | _ => none }
def hostTwinsRow : OpenClaim := { program := "ytdfelohjdkcpkaagreatdoor", sum := "4021c8c0d5793865547d5b0e4f1d3fae3043470db119247541e8ed16d2d9626c", func := "almoner/almonerlaw16.HostTwins", spec := "hostTwins", inPlace := ["math/bits.Add64"], unfollowed := true, recurses := true, named := ["almoner/api.ErrServer", "almoner/api.ErrTight", "almoner/api.ErrFull", "almoner/api.ErrNumber", "almoner/api.ErrTask", "almoner/api.ErrState", "almoner/api.ErrGone", "almoner/api.ErrBusy", "almoner/api.ErrBytes"], apart := false, laid := [("almoner/api.ErrNumber", laid_almoner_api_ErrNumber), ("almoner/api.ErrBytes", laid_almoner_api_ErrBytes), ("almoner/api.ErrGone", laid_almoner_api_ErrGone), ("almoner/api.ErrFull", laid_almoner_api_ErrFull), ("almoner/api.ErrServer", laid_almoner_api_ErrServer), ("almoner/api.ErrTask", laid_almoner_api_ErrTask), ("almoner/api.ErrTight", laid_almoner_api_ErrTight), ("almoner/api.ErrBusy", laid_almoner_api_ErrBusy), ("almoner/api.ErrState", laid_almoner_api_ErrState)] }
def HostTwinsSaid : Prop := hostTwinsRow.holds Tryz.pinned (OpenSpec.ofChange hostTwinsSpec)

/-- ITS FALSE NEIGHBOUR: 'it returns false'. Refute it at one input. -/
def hostTwinsWrong : ChangeSpec := { name := "hostTwins", fn := fun _ => fun
  | [d] => { results := [.lit (.bool false)], args := [d] }
  | _ => none }
def HostTwinsWrongFalsely : Prop := hostTwinsRow.holds Tryz.pinned (OpenSpec.ofChange hostTwinsWrong)

/-- 'almonerlaw16.HostPlays': WHATEVER THE INPUT: true; the input reads as it did. -/
def hostPlaysSpec : ChangeSpec := { name := "hostPlays", fn := fun _ => fun
  | [d] => { results := [.lit (.bool true)], args := [d] }
  | _ => none }
def hostPlaysRow : OpenClaim := { program := "ytdfelohjdkcpkaagreatdoor", sum := "4021c8c0d5793865547d5b0e4f1d3fae3043470db119247541e8ed16d2d9626c", func := "almoner/almonerlaw16.HostPlays", spec := "hostPlays", inPlace := ["math/bits.Add64"], unfollowed := true, recurses := true, named := ["almoner/api.ErrServer", "almoner/api.ErrTight", "almoner/api.ErrFull", "almoner/api.ErrNumber", "almoner/api.ErrTask", "almoner/api.ErrState", "almoner/api.ErrGone", "almoner/api.ErrBusy", "almoner/api.ErrOver", "almoner/api.ErrBytes", "almoner/api.ErrSum", "almoner/api.ErrThere", "almoner/api.ErrLarge", "almoner/api.ErrLost", "almoner/api.ErrDeep", "almoner/api.ErrBallot"], apart := false, laid := [("almoner/api.ErrNumber", laid_almoner_api_ErrNumber), ("almoner/api.ErrOver", laid_almoner_api_ErrOver), ("almoner/api.ErrBytes", laid_almoner_api_ErrBytes), ("almoner/api.ErrSum", laid_almoner_api_ErrSum), ("almoner/api.ErrGone", laid_almoner_api_ErrGone), ("almoner/api.ErrThere", laid_almoner_api_ErrThere), ("almoner/api.ErrFull", laid_almoner_api_ErrFull), ("almoner/api.ErrLarge", laid_almoner_api_ErrLarge), ("almoner/api.ErrLost", laid_almoner_api_ErrLost), ("almoner/api.ErrServer", laid_almoner_api_ErrServer), ("almoner/api.ErrTask", laid_almoner_api_ErrTask), ("almoner/api.ErrTight", laid_almoner_api_ErrTight), ("almoner/api.ErrDeep", laid_almoner_api_ErrDeep), ("almoner/api.ErrBusy", laid_almoner_api_ErrBusy), ("almoner/api.ErrBallot", laid_almoner_api_ErrBallot), ("almoner/api.ErrState", laid_almoner_api_ErrState)] }
def HostPlaysSaid : Prop := hostPlaysRow.holds Tryz.pinned (OpenSpec.ofChange hostPlaysSpec)

/-- ITS FALSE NEIGHBOUR: 'it returns false'. Refute it at one input. -/
def hostPlaysWrong : ChangeSpec := { name := "hostPlays", fn := fun _ => fun
  | [d] => { results := [.lit (.bool false)], args := [d] }
  | _ => none }
def HostPlaysWrongFalsely : Prop := hostPlaysRow.holds Tryz.pinned (OpenSpec.ofChange hostPlaysWrong)

/- THE SECOND FORM. 'bulk': how many values and letters a reading holds, each counted each time it is reached (what is shared counts as often as it is met; a slice's spare places count too). A statement '..UptoSaid' is the law's where the arguments, and the package variables that the reading takes, are together of bulk at most 1048576: NARROWER than '..Said'. Prove '..Said' where nothing that the law and all that it calls make is longer than what came in: it says more and counts as full. Else prove '..UptoSaid'. A law counts once. -/
mutual
def uptoBulk {H : Type} : DataW H → Nat
  | .lit (.string bytes) => bytes.length + 1
  | .lit _ => 1
  | .nil => 1
  | .ptr d => uptoBulk d + 1
  | .slice elems spare => uptoBulkAll elems + uptoBulkAll spare + 1
  | .agg parts => uptoBulkAll parts + 1
  | .iface _ d => uptoBulk d + 1
  | .map entries => uptoBulkEntries entries + 1
  | .held _ => 1
def uptoBulkAll {H : Type} : List (DataW H) → Nat
  | [] => 0
  | d :: r => uptoBulk d + uptoBulkAll r
def uptoBulkEntries {H : Type} : List (Lit × DataW H) → Nat
  | [] => 0
  | x :: r => uptoBulkEntry x + uptoBulkEntries r
def uptoBulkEntry {H : Type} : Lit × DataW H → Nat
  | (.string bytes, d) => bytes.length + uptoBulk d + 1
  | (_, d) => uptoBulk d + 1
 end
def uptoSmall : (H : Type) → List (DataW H) → Bool := fun _ ds => decide (uptoBulkAll ds ≤ 1048576)
def OpenSpec.upto (s : _root_.Go.ChangeSpec) : _root_.Go.OpenSpec := { _root_.Go.OpenSpec.ofChange s with cond := some uptoSmall }

/-- 'almonerlaw13.TreePlays', WHERE WHAT IT READS IS OF BULK AT MOST 1048576: true; the input reads as it did. -/
def treePlaysUptoRow : OpenClaim := { program := "ytdfelohjdkcpkaagreatdoor", sum := "4021c8c0d5793865547d5b0e4f1d3fae3043470db119247541e8ed16d2d9626c", func := "almoner/almonerlaw13.TreePlays", spec := "treePlays", inPlace := ["math/bits.Add64"], unfollowed := true, recurses := true, named := ["almoner/api.ErrServer", "almoner/api.ErrTight", "almoner/api.ErrFull", "almoner/api.ErrNumber", "almoner/api.ErrTask"], apart := false, laid := [("almoner/api.ErrNumber", laid_almoner_api_ErrNumber), ("almoner/api.ErrFull", laid_almoner_api_ErrFull), ("almoner/api.ErrServer", laid_almoner_api_ErrServer), ("almoner/api.ErrTask", laid_almoner_api_ErrTask), ("almoner/api.ErrTight", laid_almoner_api_ErrTight)], narrowed := true }
def TreePlaysUptoSaid : Prop := treePlaysUptoRow.holds Tryz.pinned (OpenSpec.upto treePlaysSpec)

/-- 'almonerlaw20.DeskAnswers', WHERE WHAT IT READS IS OF BULK AT MOST 1048576: true; the input reads as it did. -/
def deskAnswersUptoRow : OpenClaim := { program := "ytdfelohjdkcpkaagreatdoor", sum := "4021c8c0d5793865547d5b0e4f1d3fae3043470db119247541e8ed16d2d9626c", func := "almoner/almonerlaw20.DeskAnswers", spec := "deskAnswers", inPlace := ["math/bits.Add64"], unfollowed := true, recurses := true, named := ["almoner/api.ErrState", "almoner/api.ErrNumber", "almoner/api.ErrLarge", "almoner/api.ErrServer", "almoner/api.ErrTight", "almoner/api.ErrFull", "almoner/api.ErrTask", "almoner/api.ErrGone"], apart := false, laid := [("almoner/api.ErrNumber", laid_almoner_api_ErrNumber), ("almoner/api.ErrGone", laid_almoner_api_ErrGone), ("almoner/api.ErrFull", laid_almoner_api_ErrFull), ("almoner/api.ErrLarge", laid_almoner_api_ErrLarge), ("almoner/api.ErrServer", laid_almoner_api_ErrServer), ("almoner/api.ErrTask", laid_almoner_api_ErrTask), ("almoner/api.ErrTight", laid_almoner_api_ErrTight), ("almoner/api.ErrState", laid_almoner_api_ErrState)], narrowed := true }
def DeskAnswersUptoSaid : Prop := deskAnswersUptoRow.holds Tryz.pinned (OpenSpec.upto deskAnswersSpec)

/-- 'almonerlaw16.HostOrders', WHERE WHAT IT READS IS OF BULK AT MOST 1048576: true; the input reads as it did. -/
def hostOrdersUptoRow : OpenClaim := { program := "ytdfelohjdkcpkaagreatdoor", sum := "4021c8c0d5793865547d5b0e4f1d3fae3043470db119247541e8ed16d2d9626c", func := "almoner/almonerlaw16.HostOrders", spec := "hostOrders", inPlace := ["math/bits.Add64"], unfollowed := true, recurses := true, named := ["almoner/api.ErrServer", "almoner/api.ErrTight", "almoner/api.ErrFull", "almoner/api.ErrNumber", "almoner/api.ErrTask", "almoner/api.ErrState", "almoner/api.ErrGone", "almoner/api.ErrBusy"], apart := false, laid := [("almoner/api.ErrNumber", laid_almoner_api_ErrNumber), ("almoner/api.ErrGone", laid_almoner_api_ErrGone), ("almoner/api.ErrFull", laid_almoner_api_ErrFull), ("almoner/api.ErrServer", laid_almoner_api_ErrServer), ("almoner/api.ErrTask", laid_almoner_api_ErrTask), ("almoner/api.ErrTight", laid_almoner_api_ErrTight), ("almoner/api.ErrBusy", laid_almoner_api_ErrBusy), ("almoner/api.ErrState", laid_almoner_api_ErrState)], narrowed := true }
def HostOrdersUptoSaid : Prop := hostOrdersUptoRow.holds Tryz.pinned (OpenSpec.upto hostOrdersSpec)

/-- 'almonerlaw16.HostAlone', WHERE WHAT IT READS IS OF BULK AT MOST 1048576: true; the input reads as it did. -/
def hostAloneUptoRow : OpenClaim := { program := "ytdfelohjdkcpkaagreatdoor", sum := "4021c8c0d5793865547d5b0e4f1d3fae3043470db119247541e8ed16d2d9626c", func := "almoner/almonerlaw16.HostAlone", spec := "hostAlone", inPlace := ["math/bits.Add64"], unfollowed := true, recurses := true, named := ["almoner/api.ErrServer", "almoner/api.ErrTight", "almoner/api.ErrFull", "almoner/api.ErrNumber", "almoner/api.ErrTask", "almoner/api.ErrState", "almoner/api.ErrGone", "almoner/api.ErrBusy"], apart := false, laid := [("almoner/api.ErrNumber", laid_almoner_api_ErrNumber), ("almoner/api.ErrGone", laid_almoner_api_ErrGone), ("almoner/api.ErrFull", laid_almoner_api_ErrFull), ("almoner/api.ErrServer", laid_almoner_api_ErrServer), ("almoner/api.ErrTask", laid_almoner_api_ErrTask), ("almoner/api.ErrTight", laid_almoner_api_ErrTight), ("almoner/api.ErrBusy", laid_almoner_api_ErrBusy), ("almoner/api.ErrState", laid_almoner_api_ErrState)], narrowed := true }
def HostAloneUptoSaid : Prop := hostAloneUptoRow.holds Tryz.pinned (OpenSpec.upto hostAloneSpec)

/-- 'almonerlaw16.HostSupplies', WHERE WHAT IT READS IS OF BULK AT MOST 1048576: true; the input reads as it did. -/
def hostSuppliesUptoRow : OpenClaim := { program := "ytdfelohjdkcpkaagreatdoor", sum := "4021c8c0d5793865547d5b0e4f1d3fae3043470db119247541e8ed16d2d9626c", func := "almoner/almonerlaw16.HostSupplies", spec := "hostSupplies", inPlace := ["math/bits.Add64"], unfollowed := true, recurses := true, named := ["almoner/api.ErrServer", "almoner/api.ErrTight", "almoner/api.ErrFull", "almoner/api.ErrNumber", "almoner/api.ErrTask", "almoner/api.ErrState", "almoner/api.ErrGone", "almoner/api.ErrBusy", "almoner/api.ErrBytes"], apart := false, laid := [("almoner/api.ErrNumber", laid_almoner_api_ErrNumber), ("almoner/api.ErrBytes", laid_almoner_api_ErrBytes), ("almoner/api.ErrGone", laid_almoner_api_ErrGone), ("almoner/api.ErrFull", laid_almoner_api_ErrFull), ("almoner/api.ErrServer", laid_almoner_api_ErrServer), ("almoner/api.ErrTask", laid_almoner_api_ErrTask), ("almoner/api.ErrTight", laid_almoner_api_ErrTight), ("almoner/api.ErrBusy", laid_almoner_api_ErrBusy), ("almoner/api.ErrState", laid_almoner_api_ErrState)], narrowed := true }
def HostSuppliesUptoSaid : Prop := hostSuppliesUptoRow.holds Tryz.pinned (OpenSpec.upto hostSuppliesSpec)

/-- 'almonerlaw16.HostDeadlines', WHERE WHAT IT READS IS OF BULK AT MOST 1048576: true; the input reads as it did. -/
def hostDeadlinesUptoRow : OpenClaim := { program := "ytdfelohjdkcpkaagreatdoor", sum := "4021c8c0d5793865547d5b0e4f1d3fae3043470db119247541e8ed16d2d9626c", func := "almoner/almonerlaw16.HostDeadlines", spec := "hostDeadlines", inPlace := ["math/bits.Add64"], unfollowed := true, recurses := true, named := ["almoner/api.ErrServer", "almoner/api.ErrTight", "almoner/api.ErrFull", "almoner/api.ErrNumber", "almoner/api.ErrTask", "almoner/api.ErrState", "almoner/api.ErrGone", "almoner/api.ErrBusy", "almoner/api.ErrBytes"], apart := false, laid := [("almoner/api.ErrNumber", laid_almoner_api_ErrNumber), ("almoner/api.ErrBytes", laid_almoner_api_ErrBytes), ("almoner/api.ErrGone", laid_almoner_api_ErrGone), ("almoner/api.ErrFull", laid_almoner_api_ErrFull), ("almoner/api.ErrServer", laid_almoner_api_ErrServer), ("almoner/api.ErrTask", laid_almoner_api_ErrTask), ("almoner/api.ErrTight", laid_almoner_api_ErrTight), ("almoner/api.ErrBusy", laid_almoner_api_ErrBusy), ("almoner/api.ErrState", laid_almoner_api_ErrState)], narrowed := true }
def HostDeadlinesUptoSaid : Prop := hostDeadlinesUptoRow.holds Tryz.pinned (OpenSpec.upto hostDeadlinesSpec)

/-- 'almonerlaw16.HostPaths', WHERE WHAT IT READS IS OF BULK AT MOST 1048576: true; the input reads as it did. -/
def hostPathsUptoRow : OpenClaim := { program := "ytdfelohjdkcpkaagreatdoor", sum := "4021c8c0d5793865547d5b0e4f1d3fae3043470db119247541e8ed16d2d9626c", func := "almoner/almonerlaw16.HostPaths", spec := "hostPaths", inPlace := ["math/bits.Add64"], unfollowed := true, recurses := true, named := ["almoner/api.ErrServer", "almoner/api.ErrTight", "almoner/api.ErrFull", "almoner/api.ErrNumber", "almoner/api.ErrTask", "almoner/api.ErrState", "almoner/api.ErrGone", "almoner/api.ErrBusy", "almoner/api.ErrBytes"], apart := false, laid := [("almoner/api.ErrNumber", laid_almoner_api_ErrNumber), ("almoner/api.ErrBytes", laid_almoner_api_ErrBytes), ("almoner/api.ErrGone", laid_almoner_api_ErrGone), ("almoner/api.ErrFull", laid_almoner_api_ErrFull), ("almoner/api.ErrServer", laid_almoner_api_ErrServer), ("almoner/api.ErrTask", laid_almoner_api_ErrTask), ("almoner/api.ErrTight", laid_almoner_api_ErrTight), ("almoner/api.ErrBusy", laid_almoner_api_ErrBusy), ("almoner/api.ErrState", laid_almoner_api_ErrState)], narrowed := true }
def HostPathsUptoSaid : Prop := hostPathsUptoRow.holds Tryz.pinned (OpenSpec.upto hostPathsSpec)

/-- 'almonerlaw16.HostTwins', WHERE WHAT IT READS IS OF BULK AT MOST 1048576: true; the input reads as it did. -/
def hostTwinsUptoRow : OpenClaim := { program := "ytdfelohjdkcpkaagreatdoor", sum := "4021c8c0d5793865547d5b0e4f1d3fae3043470db119247541e8ed16d2d9626c", func := "almoner/almonerlaw16.HostTwins", spec := "hostTwins", inPlace := ["math/bits.Add64"], unfollowed := true, recurses := true, named := ["almoner/api.ErrServer", "almoner/api.ErrTight", "almoner/api.ErrFull", "almoner/api.ErrNumber", "almoner/api.ErrTask", "almoner/api.ErrState", "almoner/api.ErrGone", "almoner/api.ErrBusy", "almoner/api.ErrBytes"], apart := false, laid := [("almoner/api.ErrNumber", laid_almoner_api_ErrNumber), ("almoner/api.ErrBytes", laid_almoner_api_ErrBytes), ("almoner/api.ErrGone", laid_almoner_api_ErrGone), ("almoner/api.ErrFull", laid_almoner_api_ErrFull), ("almoner/api.ErrServer", laid_almoner_api_ErrServer), ("almoner/api.ErrTask", laid_almoner_api_ErrTask), ("almoner/api.ErrTight", laid_almoner_api_ErrTight), ("almoner/api.ErrBusy", laid_almoner_api_ErrBusy), ("almoner/api.ErrState", laid_almoner_api_ErrState)], narrowed := true }
def HostTwinsUptoSaid : Prop := hostTwinsUptoRow.holds Tryz.pinned (OpenSpec.upto hostTwinsSpec)

/-- 'almonerlaw16.HostPlays', WHERE WHAT IT READS IS OF BULK AT MOST 1048576: true; the input reads as it did. -/
def hostPlaysUptoRow : OpenClaim := { program := "ytdfelohjdkcpkaagreatdoor", sum := "4021c8c0d5793865547d5b0e4f1d3fae3043470db119247541e8ed16d2d9626c", func := "almoner/almonerlaw16.HostPlays", spec := "hostPlays", inPlace := ["math/bits.Add64"], unfollowed := true, recurses := true, named := ["almoner/api.ErrServer", "almoner/api.ErrTight", "almoner/api.ErrFull", "almoner/api.ErrNumber", "almoner/api.ErrTask", "almoner/api.ErrState", "almoner/api.ErrGone", "almoner/api.ErrBusy", "almoner/api.ErrOver", "almoner/api.ErrBytes", "almoner/api.ErrSum", "almoner/api.ErrThere", "almoner/api.ErrLarge", "almoner/api.ErrLost", "almoner/api.ErrDeep", "almoner/api.ErrBallot"], apart := false, laid := [("almoner/api.ErrNumber", laid_almoner_api_ErrNumber), ("almoner/api.ErrOver", laid_almoner_api_ErrOver), ("almoner/api.ErrBytes", laid_almoner_api_ErrBytes), ("almoner/api.ErrSum", laid_almoner_api_ErrSum), ("almoner/api.ErrGone", laid_almoner_api_ErrGone), ("almoner/api.ErrThere", laid_almoner_api_ErrThere), ("almoner/api.ErrFull", laid_almoner_api_ErrFull), ("almoner/api.ErrLarge", laid_almoner_api_ErrLarge), ("almoner/api.ErrLost", laid_almoner_api_ErrLost), ("almoner/api.ErrServer", laid_almoner_api_ErrServer), ("almoner/api.ErrTask", laid_almoner_api_ErrTask), ("almoner/api.ErrTight", laid_almoner_api_ErrTight), ("almoner/api.ErrDeep", laid_almoner_api_ErrDeep), ("almoner/api.ErrBusy", laid_almoner_api_ErrBusy), ("almoner/api.ErrBallot", laid_almoner_api_ErrBallot), ("almoner/api.ErrState", laid_almoner_api_ErrState)], narrowed := true }
def HostPlaysUptoSaid : Prop := hostPlaysUptoRow.holds Tryz.pinned (OpenSpec.upto hostPlaysSpec)

end Rows
end Go.Proofs.YtdfelohjdkcpkaaGreatDoor
