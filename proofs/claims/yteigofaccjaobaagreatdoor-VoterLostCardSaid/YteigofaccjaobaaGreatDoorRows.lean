/-
  NARROWER THAN 'FOR EVERY INPUT', by the rows' own cells (each row's printed sentence says how): VoterNumbers: laid · VoterLost: laid · VoterPlays: laid · RoundAgrees: laid.
  DERIVED. THE GIVEN ROWS OF THIS SEAT. 4 by the template 'for every input the law returns true; each argument reads behind the call as it read before'; 0 by the template 'total and deterministic' (their statements: YteigofaccjaobaaGreatDoorTotals.lean).
  GIVEN WITH THE SEED: the statements are not yours to turn. If you find one false, say at which input.
  Laid BY PROGRAM, IN A SANDBOX (cutbox-rows.mjs): the forced cells as the released guide's own fill.sh prints them over the translation 26e7e58fa904cfc6… (all of the seat's roots in one cut). By AI agents, Wed Nov 11 2026. No macro, syntax, notation, axiom, sorry.
-/
import Derived.Test.YteigofaccjaobaaGreatDoorChecked
import GoSem.Claim
import GoSem.ClaimJoined
import GoSem.ClaimMapViews
import Derived.JoinedTies
import Derived.KernelRfl
namespace Go.Proofs.YteigofaccjaobaaGreatDoor
/- THE CELL 'sum', in the pinned program and in every row, IS THE sha256 OF THE DUMP (.gsa) THAT YteigofaccjaobaaGreatDoorProg.lean LOADS. Nothing in Lean hashes anything: it is a label: what it is worth is what the hold of that sum in a sandbox is worth. -/
noncomputable def Tryz.pinned : Pinned := { name := "yteigofaccjaobaagreatdoor", sum := "26e7e58fa904cfc656f19bb53f6b677d979f960a1ad1dd79c6ec7fdc2a294167", checked := Tryz.checked }
namespace Rows
def none {H : Type} : Left H := { results := [], args := [] }

/- WHAT THE LISTED PACKAGE-LEVEL VARIABLES READ AS WHEN THE CALL BEGINS. Each datum BY PROGRAM (the guide's laid-datum.mjs) off the statement by which the dump's own 'gosem.cut.vars' lays the variable. In a bare row this is a premise. The card (YteigofaccjaobaaGreatDoorCards.lean) ties it to the program's text. -/
def laid_almoner_api_ErrNumber {H : Type} : DataW H := .iface "*errors.errorString" (.ptr (.agg [.lit (.string [97, 108, 109, 111, 110, 101, 114, 58, 32, 110, 117, 109, 98, 101, 114])]))
def laid_almoner_api_ErrBytes {H : Type} : DataW H := .iface "*errors.errorString" (.ptr (.agg [.lit (.string [97, 108, 109, 111, 110, 101, 114, 58, 32, 98, 121, 116, 101, 115])]))
def laid_almoner_api_ErrSum {H : Type} : DataW H := .iface "*errors.errorString" (.ptr (.agg [.lit (.string [97, 108, 109, 111, 110, 101, 114, 58, 32, 115, 117, 109])]))
def laid_almoner_api_ErrGone {H : Type} : DataW H := .iface "*errors.errorString" (.ptr (.agg [.lit (.string [97, 108, 109, 111, 110, 101, 114, 58, 32, 103, 111, 110, 101])]))
def laid_almoner_api_ErrFull {H : Type} : DataW H := .iface "*errors.errorString" (.ptr (.agg [.lit (.string [97, 108, 109, 111, 110, 101, 114, 58, 32, 102, 117, 108, 108])]))
def laid_almoner_api_ErrLarge {H : Type} : DataW H := .iface "*errors.errorString" (.ptr (.agg [.lit (.string [97, 108, 109, 111, 110, 101, 114, 58, 32, 108, 97, 114, 103, 101])]))
def laid_almoner_api_ErrLost {H : Type} : DataW H := .iface "*errors.errorString" (.ptr (.agg [.lit (.string [97, 108, 109, 111, 110, 101, 114, 58, 32, 108, 111, 115, 116])]))
def laid_almoner_api_ErrBallot {H : Type} : DataW H := .iface "*errors.errorString" (.ptr (.agg [.lit (.string [97, 108, 109, 111, 110, 101, 114, 58, 32, 98, 97, 108, 108, 111, 116])]))
def laid_almoner_api_ErrState {H : Type} : DataW H := .iface "*errors.errorString" (.ptr (.agg [.lit (.string [97, 108, 109, 111, 110, 101, 114, 58, 32, 115, 116, 97, 116, 101])]))
def laid_almoner_api_ErrOver {H : Type} : DataW H := .iface "*errors.errorString" (.ptr (.agg [.lit (.string [97, 108, 109, 111, 110, 101, 114, 58, 32, 111, 118, 101, 114])]))
def laid_almoner_api_ErrThere {H : Type} : DataW H := .iface "*errors.errorString" (.ptr (.agg [.lit (.string [97, 108, 109, 111, 110, 101, 114, 58, 32, 116, 104, 101, 114, 101])]))
def laid_almoner_api_ErrServer {H : Type} : DataW H := .iface "*errors.errorString" (.ptr (.agg [.lit (.string [97, 108, 109, 111, 110, 101, 114, 58, 32, 115, 101, 114, 118, 101, 114])]))
def laid_almoner_api_ErrTask {H : Type} : DataW H := .iface "*errors.errorString" (.ptr (.agg [.lit (.string [97, 108, 109, 111, 110, 101, 114, 58, 32, 116, 97, 115, 107])]))
def laid_almoner_api_ErrTight {H : Type} : DataW H := .iface "*errors.errorString" (.ptr (.agg [.lit (.string [97, 108, 109, 111, 110, 101, 114, 58, 32, 116, 105, 103, 104, 116])]))
def laid_almoner_api_ErrDeep {H : Type} : DataW H := .iface "*errors.errorString" (.ptr (.agg [.lit (.string [97, 108, 109, 111, 110, 101, 114, 58, 32, 100, 101, 101, 112])]))
def laid_almoner_api_ErrBusy {H : Type} : DataW H := .iface "*errors.errorString" (.ptr (.agg [.lit (.string [97, 108, 109, 111, 110, 101, 114, 58, 32, 98, 117, 115, 121])]))

/-- 'almonerlaw18.VoterNumbers': WHATEVER THE INPUT: true; the input reads as it did. -/
def voterNumbersSpec : ChangeSpec := { name := "voterNumbers", fn := fun _ => fun
  | [d1, d2, d3] => { results := [.lit (.bool true)], args := [d1, d2, d3] }
  | _ => none }
def voterNumbersRow : OpenClaim := { program := "yteigofaccjaobaagreatdoor", sum := "26e7e58fa904cfc656f19bb53f6b677d979f960a1ad1dd79c6ec7fdc2a294167", func := "almoner/almonerlaw18.VoterNumbers", spec := "voterNumbers", inPlace := ["internal/reflectlite.TypeOf"], unfollowed := true, recurses := true, named := ["almoner/api.ErrNumber", "almoner/api.ErrLarge", "almoner/api.ErrState", "almoner/api.ErrLost", "almoner/api.ErrSum", "almoner/api.ErrBytes", "almoner/api.ErrFull", "almoner/api.ErrBallot", "almoner/api.ErrGone"], apart := false, laid := [("almoner/api.ErrNumber", laid_almoner_api_ErrNumber), ("almoner/api.ErrBytes", laid_almoner_api_ErrBytes), ("almoner/api.ErrSum", laid_almoner_api_ErrSum), ("almoner/api.ErrGone", laid_almoner_api_ErrGone), ("almoner/api.ErrFull", laid_almoner_api_ErrFull), ("almoner/api.ErrLarge", laid_almoner_api_ErrLarge), ("almoner/api.ErrLost", laid_almoner_api_ErrLost), ("almoner/api.ErrBallot", laid_almoner_api_ErrBallot), ("almoner/api.ErrState", laid_almoner_api_ErrState)] }
def VoterNumbersSaid : Prop := voterNumbersRow.holds Tryz.pinned (OpenSpec.ofChange voterNumbersSpec)

/-- ITS FALSE NEIGHBOUR: 'it returns false'. Refute it at one input. -/
def voterNumbersWrong : ChangeSpec := { name := "voterNumbers", fn := fun _ => fun
  | [d1, d2, d3] => { results := [.lit (.bool false)], args := [d1, d2, d3] }
  | _ => none }
def VoterNumbersWrongFalsely : Prop := voterNumbersRow.holds Tryz.pinned (OpenSpec.ofChange voterNumbersWrong)

/-- 'almonerlaw18.VoterLost': WHATEVER THE INPUT: true; the input reads as it did. -/
def voterLostSpec : ChangeSpec := { name := "voterLost", fn := fun _ => fun
  | [d1, d2] => { results := [.lit (.bool true)], args := [d1, d2] }
  | _ => none }
def voterLostRow : OpenClaim := { program := "yteigofaccjaobaagreatdoor", sum := "26e7e58fa904cfc656f19bb53f6b677d979f960a1ad1dd79c6ec7fdc2a294167", func := "almoner/almonerlaw18.VoterLost", spec := "voterLost", inPlace := ["internal/reflectlite.TypeOf"], unfollowed := true, recurses := true, named := ["almoner/api.ErrLost", "almoner/api.ErrNumber", "almoner/api.ErrLarge", "almoner/api.ErrState", "almoner/api.ErrSum", "almoner/api.ErrBytes", "almoner/api.ErrFull", "almoner/api.ErrBallot", "almoner/api.ErrGone"], apart := false, laid := [("almoner/api.ErrNumber", laid_almoner_api_ErrNumber), ("almoner/api.ErrBytes", laid_almoner_api_ErrBytes), ("almoner/api.ErrSum", laid_almoner_api_ErrSum), ("almoner/api.ErrGone", laid_almoner_api_ErrGone), ("almoner/api.ErrFull", laid_almoner_api_ErrFull), ("almoner/api.ErrLarge", laid_almoner_api_ErrLarge), ("almoner/api.ErrLost", laid_almoner_api_ErrLost), ("almoner/api.ErrBallot", laid_almoner_api_ErrBallot), ("almoner/api.ErrState", laid_almoner_api_ErrState)] }
def VoterLostSaid : Prop := voterLostRow.holds Tryz.pinned (OpenSpec.ofChange voterLostSpec)

/-- ITS FALSE NEIGHBOUR: 'it returns false'. Refute it at one input. -/
def voterLostWrong : ChangeSpec := { name := "voterLost", fn := fun _ => fun
  | [d1, d2] => { results := [.lit (.bool false)], args := [d1, d2] }
  | _ => none }
def VoterLostWrongFalsely : Prop := voterLostRow.holds Tryz.pinned (OpenSpec.ofChange voterLostWrong)

/-- 'almonerlaw18.VoterPlays': WHATEVER THE INPUT: true; the input reads as it did. -/
def voterPlaysSpec : ChangeSpec := { name := "voterPlays", fn := fun _ => fun
  | [d1, d2, d3] => { results := [.lit (.bool true)], args := [d1, d2, d3] }
  | _ => none }
def voterPlaysRow : OpenClaim := { program := "yteigofaccjaobaagreatdoor", sum := "26e7e58fa904cfc656f19bb53f6b677d979f960a1ad1dd79c6ec7fdc2a294167", func := "almoner/almonerlaw18.VoterPlays", spec := "voterPlays", inPlace := ["internal/reflectlite.TypeOf"], unfollowed := true, recurses := true, named := ["almoner/api.ErrNumber", "almoner/api.ErrLarge", "almoner/api.ErrState", "almoner/api.ErrLost", "almoner/api.ErrSum", "almoner/api.ErrBytes", "almoner/api.ErrFull", "almoner/api.ErrBallot", "almoner/api.ErrGone", "almoner/api.ErrOver", "almoner/api.ErrThere", "almoner/api.ErrServer", "almoner/api.ErrTask", "almoner/api.ErrTight", "almoner/api.ErrDeep", "almoner/api.ErrBusy"], apart := false, laid := [("almoner/api.ErrNumber", laid_almoner_api_ErrNumber), ("almoner/api.ErrOver", laid_almoner_api_ErrOver), ("almoner/api.ErrBytes", laid_almoner_api_ErrBytes), ("almoner/api.ErrSum", laid_almoner_api_ErrSum), ("almoner/api.ErrGone", laid_almoner_api_ErrGone), ("almoner/api.ErrThere", laid_almoner_api_ErrThere), ("almoner/api.ErrFull", laid_almoner_api_ErrFull), ("almoner/api.ErrLarge", laid_almoner_api_ErrLarge), ("almoner/api.ErrLost", laid_almoner_api_ErrLost), ("almoner/api.ErrServer", laid_almoner_api_ErrServer), ("almoner/api.ErrTask", laid_almoner_api_ErrTask), ("almoner/api.ErrTight", laid_almoner_api_ErrTight), ("almoner/api.ErrDeep", laid_almoner_api_ErrDeep), ("almoner/api.ErrBusy", laid_almoner_api_ErrBusy), ("almoner/api.ErrBallot", laid_almoner_api_ErrBallot), ("almoner/api.ErrState", laid_almoner_api_ErrState)] }
def VoterPlaysSaid : Prop := voterPlaysRow.holds Tryz.pinned (OpenSpec.ofChange voterPlaysSpec)

/-- ITS FALSE NEIGHBOUR: 'it returns false'. Refute it at one input. -/
def voterPlaysWrong : ChangeSpec := { name := "voterPlays", fn := fun _ => fun
  | [d1, d2, d3] => { results := [.lit (.bool false)], args := [d1, d2, d3] }
  | _ => none }
def VoterPlaysWrongFalsely : Prop := voterPlaysRow.holds Tryz.pinned (OpenSpec.ofChange voterPlaysWrong)

/-- 'almonerlaw19.RoundAgrees': WHATEVER THE INPUT: true; the input reads as it did. -/
def roundAgreesSpec : ChangeSpec := { name := "roundAgrees", fn := fun _ => fun
  | [d1, d2] => { results := [.lit (.bool true)], args := [d1, d2] }
  | _ => none }
def roundAgreesRow : OpenClaim := { program := "yteigofaccjaobaagreatdoor", sum := "26e7e58fa904cfc656f19bb53f6b677d979f960a1ad1dd79c6ec7fdc2a294167", func := "almoner/almonerlaw19.RoundAgrees", spec := "roundAgrees", inPlace := ["internal/reflectlite.TypeOf"], unfollowed := true, recurses := true, named := ["almoner/api.ErrNumber", "almoner/api.ErrState", "almoner/api.ErrBallot", "almoner/api.ErrFull", "almoner/api.ErrGone", "almoner/api.ErrLarge", "almoner/api.ErrLost", "almoner/api.ErrSum", "almoner/api.ErrBytes"], apart := false, laid := [("almoner/api.ErrNumber", laid_almoner_api_ErrNumber), ("almoner/api.ErrBytes", laid_almoner_api_ErrBytes), ("almoner/api.ErrSum", laid_almoner_api_ErrSum), ("almoner/api.ErrGone", laid_almoner_api_ErrGone), ("almoner/api.ErrFull", laid_almoner_api_ErrFull), ("almoner/api.ErrLarge", laid_almoner_api_ErrLarge), ("almoner/api.ErrLost", laid_almoner_api_ErrLost), ("almoner/api.ErrBallot", laid_almoner_api_ErrBallot), ("almoner/api.ErrState", laid_almoner_api_ErrState)] }
def RoundAgreesSaid : Prop := roundAgreesRow.holds Tryz.pinned (OpenSpec.ofChange roundAgreesSpec)

/-- ITS FALSE NEIGHBOUR: 'it returns false'. Refute it at one input. -/
def roundAgreesWrong : ChangeSpec := { name := "roundAgrees", fn := fun _ => fun
  | [d1, d2] => { results := [.lit (.bool false)], args := [d1, d2] }
  | _ => none }
def RoundAgreesWrongFalsely : Prop := roundAgreesRow.holds Tryz.pinned (OpenSpec.ofChange roundAgreesWrong)

/- THE SECOND FORM. 'bulk': how many values and letters a reading holds, each counted each time it is reached (what is shared counts as often as it is met; a slice's spare places count too). A statement '..UptoSaid' is the law's where the arguments, and the package variables that the reading takes, are together of bulk at most 1048576: NARROWER than '..Said'. Prove '..Said' where nothing that the law and all that it calls make is longer than what came in: it says more and counts as full. Else prove '..UptoSaid'. A law counts once. -/
mutual
def uptoBulk {H : Type} : DataW H → Nat
  | .lit (.string bytes) => bytes.length + 1
  | .lit _ => 1
  | .nil => 1
  | .ptr d => uptoBulk d + 1
  | .slice elems spare => uptoBulkAll elems + uptoBulkAll spare + 1
  | .agg parts => uptoBulkAll parts + 1
  | .iface _ d => uptoBulk d + 1
  | .map entries => uptoBulkEntries entries + 1
  | .held _ => 1
def uptoBulkAll {H : Type} : List (DataW H) → Nat
  | [] => 0
  | d :: r => uptoBulk d + uptoBulkAll r
def uptoBulkEntries {H : Type} : List (Lit × DataW H) → Nat
  | [] => 0
  | x :: r => uptoBulkEntry x + uptoBulkEntries r
def uptoBulkEntry {H : Type} : Lit × DataW H → Nat
  | (.string bytes, d) => bytes.length + uptoBulk d + 1
  | (_, d) => uptoBulk d + 1
 end
def uptoSmall : (H : Type) → List (DataW H) → Bool := fun _ ds => decide (uptoBulkAll ds ≤ 1048576)
def OpenSpec.upto (s : _root_.Go.ChangeSpec) : _root_.Go.OpenSpec := { _root_.Go.OpenSpec.ofChange s with cond := some uptoSmall }

/-- 'almonerlaw18.VoterNumbers', WHERE WHAT IT READS IS OF BULK AT MOST 1048576: true; the input reads as it did. -/
def voterNumbersUptoRow : OpenClaim := { program := "yteigofaccjaobaagreatdoor", sum := "26e7e58fa904cfc656f19bb53f6b677d979f960a1ad1dd79c6ec7fdc2a294167", func := "almoner/almonerlaw18.VoterNumbers", spec := "voterNumbers", inPlace := ["internal/reflectlite.TypeOf"], unfollowed := true, recurses := true, named := ["almoner/api.ErrNumber", "almoner/api.ErrLarge", "almoner/api.ErrState", "almoner/api.ErrLost", "almoner/api.ErrSum", "almoner/api.ErrBytes", "almoner/api.ErrFull", "almoner/api.ErrBallot", "almoner/api.ErrGone"], apart := false, laid := [("almoner/api.ErrNumber", laid_almoner_api_ErrNumber), ("almoner/api.ErrBytes", laid_almoner_api_ErrBytes), ("almoner/api.ErrSum", laid_almoner_api_ErrSum), ("almoner/api.ErrGone", laid_almoner_api_ErrGone), ("almoner/api.ErrFull", laid_almoner_api_ErrFull), ("almoner/api.ErrLarge", laid_almoner_api_ErrLarge), ("almoner/api.ErrLost", laid_almoner_api_ErrLost), ("almoner/api.ErrBallot", laid_almoner_api_ErrBallot), ("almoner/api.ErrState", laid_almoner_api_ErrState)], narrowed := true }
def VoterNumbersUptoSaid : Prop := voterNumbersUptoRow.holds Tryz.pinned (OpenSpec.upto voterNumbersSpec)

/-- 'almonerlaw18.VoterLost', WHERE WHAT IT READS IS OF BULK AT MOST 1048576: true; the input reads as it did. -/
def voterLostUptoRow : OpenClaim := { program := "yteigofaccjaobaagreatdoor", sum := "26e7e58fa904cfc656f19bb53f6b677d979f960a1ad1dd79c6ec7fdc2a294167", func := "almoner/almonerlaw18.VoterLost", spec := "voterLost", inPlace := ["internal/reflectlite.TypeOf"], unfollowed := true, recurses := true, named := ["almoner/api.ErrLost", "almoner/api.ErrNumber", "almoner/api.ErrLarge", "almoner/api.ErrState", "almoner/api.ErrSum", "almoner/api.ErrBytes", "almoner/api.ErrFull", "almoner/api.ErrBallot", "almoner/api.ErrGone"], apart := false, laid := [("almoner/api.ErrNumber", laid_almoner_api_ErrNumber), ("almoner/api.ErrBytes", laid_almoner_api_ErrBytes), ("almoner/api.ErrSum", laid_almoner_api_ErrSum), ("almoner/api.ErrGone", laid_almoner_api_ErrGone), ("almoner/api.ErrFull", laid_almoner_api_ErrFull), ("almoner/api.ErrLarge", laid_almoner_api_ErrLarge), ("almoner/api.ErrLost", laid_almoner_api_ErrLost), ("almoner/api.ErrBallot", laid_almoner_api_ErrBallot), ("almoner/api.ErrState", laid_almoner_api_ErrState)], narrowed := true }
def VoterLostUptoSaid : Prop := voterLostUptoRow.holds Tryz.pinned (OpenSpec.upto voterLostSpec)

/-- 'almonerlaw18.VoterPlays', WHERE WHAT IT READS IS OF BULK AT MOST 1048576: true; the input reads as it did. -/
def voterPlaysUptoRow : OpenClaim := { program := "yteigofaccjaobaagreatdoor", sum := "26e7e58fa904cfc656f19bb53f6b677d979f960a1ad1dd79c6ec7fdc2a294167", func := "almoner/almonerlaw18.VoterPlays", spec := "voterPlays", inPlace := ["internal/reflectlite.TypeOf"], unfollowed := true, recurses := true, named := ["almoner/api.ErrNumber", "almoner/api.ErrLarge", "almoner/api.ErrState", "almoner/api.ErrLost", "almoner/api.ErrSum", "almoner/api.ErrBytes", "almoner/api.ErrFull", "almoner/api.ErrBallot", "almoner/api.ErrGone", "almoner/api.ErrOver", "almoner/api.ErrThere", "almoner/api.ErrServer", "almoner/api.ErrTask", "almoner/api.ErrTight", "almoner/api.ErrDeep", "almoner/api.ErrBusy"], apart := false, laid := [("almoner/api.ErrNumber", laid_almoner_api_ErrNumber), ("almoner/api.ErrOver", laid_almoner_api_ErrOver), ("almoner/api.ErrBytes", laid_almoner_api_ErrBytes), ("almoner/api.ErrSum", laid_almoner_api_ErrSum), ("almoner/api.ErrGone", laid_almoner_api_ErrGone), ("almoner/api.ErrThere", laid_almoner_api_ErrThere), ("almoner/api.ErrFull", laid_almoner_api_ErrFull), ("almoner/api.ErrLarge", laid_almoner_api_ErrLarge), ("almoner/api.ErrLost", laid_almoner_api_ErrLost), ("almoner/api.ErrServer", laid_almoner_api_ErrServer), ("almoner/api.ErrTask", laid_almoner_api_ErrTask), ("almoner/api.ErrTight", laid_almoner_api_ErrTight), ("almoner/api.ErrDeep", laid_almoner_api_ErrDeep), ("almoner/api.ErrBusy", laid_almoner_api_ErrBusy), ("almoner/api.ErrBallot", laid_almoner_api_ErrBallot), ("almoner/api.ErrState", laid_almoner_api_ErrState)], narrowed := true }
def VoterPlaysUptoSaid : Prop := voterPlaysUptoRow.holds Tryz.pinned (OpenSpec.upto voterPlaysSpec)

/-- 'almonerlaw19.RoundAgrees', WHERE WHAT IT READS IS OF BULK AT MOST 1048576: true; the input reads as it did. -/
def roundAgreesUptoRow : OpenClaim := { program := "yteigofaccjaobaagreatdoor", sum := "26e7e58fa904cfc656f19bb53f6b677d979f960a1ad1dd79c6ec7fdc2a294167", func := "almoner/almonerlaw19.RoundAgrees", spec := "roundAgrees", inPlace := ["internal/reflectlite.TypeOf"], unfollowed := true, recurses := true, named := ["almoner/api.ErrNumber", "almoner/api.ErrState", "almoner/api.ErrBallot", "almoner/api.ErrFull", "almoner/api.ErrGone", "almoner/api.ErrLarge", "almoner/api.ErrLost", "almoner/api.ErrSum", "almoner/api.ErrBytes"], apart := false, laid := [("almoner/api.ErrNumber", laid_almoner_api_ErrNumber), ("almoner/api.ErrBytes", laid_almoner_api_ErrBytes), ("almoner/api.ErrSum", laid_almoner_api_ErrSum), ("almoner/api.ErrGone", laid_almoner_api_ErrGone), ("almoner/api.ErrFull", laid_almoner_api_ErrFull), ("almoner/api.ErrLarge", laid_almoner_api_ErrLarge), ("almoner/api.ErrLost", laid_almoner_api_ErrLost), ("almoner/api.ErrBallot", laid_almoner_api_ErrBallot), ("almoner/api.ErrState", laid_almoner_api_ErrState)], narrowed := true }
def RoundAgreesUptoSaid : Prop := roundAgreesUptoRow.holds Tryz.pinned (OpenSpec.upto roundAgreesSpec)

end Rows
end Go.Proofs.YteigofaccjaobaaGreatDoor
