/-
  NARROWER THAN 'FOR EVERY INPUT', by the rows' own cells (each row's printed sentence says how): RoundNewest: laid · RoundHalves: laid · RoundReads: laid · RoundPlays: laid · DeskReplies: laid · DeskAsks: laid · DeskSlips: laid · DeskGets: laid.
  DERIVED. THE GIVEN ROWS OF THIS SEAT. 8 by the template 'for every input the law returns true; each argument reads behind the call as it read before'; 0 by the template 'total and deterministic' (their statements: YtblfljpmkgmjaaaDoorTotals.lean).
  GIVEN WITH THE SEED: the statements are not yours to turn. If you find one false, say at which input.
  Laid BY PROGRAM, IN A SANDBOX (cutbox-rows.mjs): the forced cells as the released guide's own fill.sh prints them over the translation cd6fef5087099e71… (all of the seat's roots in one cut). By AI agents, Wed Nov 11 2026. No macro, syntax, notation, axiom, sorry.
-/
import Derived.Test.YtblfljpmkgmjaaaDoorChecked
import GoSem.Claim
import GoSem.ClaimJoined
import GoSem.ClaimMapViews
import Derived.JoinedTies
import Derived.KernelRfl
namespace Go.Proofs.YtblfljpmkgmjaaaDoor
/- THE CELL 'sum', in the pinned program and in every row, IS THE sha256 OF THE DUMP (.gsa) THAT YtblfljpmkgmjaaaDoorProg.lean LOADS. Nothing in Lean hashes anything: it is a label: what it is worth is what the hold of that sum in a sandbox is worth. -/
noncomputable def Tryd.pinned : Pinned := { name := "ytblfljpmkgmjaaadoor", sum := "cd6fef5087099e71d48066c02c138265f8edfedec6b81b158d71e434ee6595d1", checked := Tryd.checked }
namespace Rows
def none {H : Type} : Left H := { results := [], args := [] }

/- WHAT THE LISTED PACKAGE-LEVEL VARIABLES READ AS WHEN THE CALL BEGINS. Each datum BY PROGRAM (the guide's laid-datum.mjs) off the statement by which the dump's own 'gosem.cut.vars' lays the variable. In a bare row this is a premise. The card (YtblfljpmkgmjaaaDoorCards.lean) ties it to the program's text. -/
def laid_almoner_api_ErrNumber {H : Type} : DataW H := .iface "*errors.errorString" (.ptr (.agg [.lit (.string [97, 108, 109, 111, 110, 101, 114, 58, 32, 110, 117, 109, 98, 101, 114])]))
def laid_almoner_api_ErrGone {H : Type} : DataW H := .iface "*errors.errorString" (.ptr (.agg [.lit (.string [97, 108, 109, 111, 110, 101, 114, 58, 32, 103, 111, 110, 101])]))
def laid_almoner_api_ErrFull {H : Type} : DataW H := .iface "*errors.errorString" (.ptr (.agg [.lit (.string [97, 108, 109, 111, 110, 101, 114, 58, 32, 102, 117, 108, 108])]))
def laid_almoner_api_ErrBallot {H : Type} : DataW H := .iface "*errors.errorString" (.ptr (.agg [.lit (.string [97, 108, 109, 111, 110, 101, 114, 58, 32, 98, 97, 108, 108, 111, 116])]))
def laid_almoner_api_ErrState {H : Type} : DataW H := .iface "*errors.errorString" (.ptr (.agg [.lit (.string [97, 108, 109, 111, 110, 101, 114, 58, 32, 115, 116, 97, 116, 101])]))
def laid_almoner_api_ErrOver {H : Type} : DataW H := .iface "*errors.errorString" (.ptr (.agg [.lit (.string [97, 108, 109, 111, 110, 101, 114, 58, 32, 111, 118, 101, 114])]))
def laid_almoner_api_ErrBytes {H : Type} : DataW H := .iface "*errors.errorString" (.ptr (.agg [.lit (.string [97, 108, 109, 111, 110, 101, 114, 58, 32, 98, 121, 116, 101, 115])]))
def laid_almoner_api_ErrSum {H : Type} : DataW H := .iface "*errors.errorString" (.ptr (.agg [.lit (.string [97, 108, 109, 111, 110, 101, 114, 58, 32, 115, 117, 109])]))
def laid_almoner_api_ErrThere {H : Type} : DataW H := .iface "*errors.errorString" (.ptr (.agg [.lit (.string [97, 108, 109, 111, 110, 101, 114, 58, 32, 116, 104, 101, 114, 101])]))
def laid_almoner_api_ErrLarge {H : Type} : DataW H := .iface "*errors.errorString" (.ptr (.agg [.lit (.string [97, 108, 109, 111, 110, 101, 114, 58, 32, 108, 97, 114, 103, 101])]))
def laid_almoner_api_ErrLost {H : Type} : DataW H := .iface "*errors.errorString" (.ptr (.agg [.lit (.string [97, 108, 109, 111, 110, 101, 114, 58, 32, 108, 111, 115, 116])]))
def laid_almoner_api_ErrServer {H : Type} : DataW H := .iface "*errors.errorString" (.ptr (.agg [.lit (.string [97, 108, 109, 111, 110, 101, 114, 58, 32, 115, 101, 114, 118, 101, 114])]))
def laid_almoner_api_ErrTask {H : Type} : DataW H := .iface "*errors.errorString" (.ptr (.agg [.lit (.string [97, 108, 109, 111, 110, 101, 114, 58, 32, 116, 97, 115, 107])]))
def laid_almoner_api_ErrTight {H : Type} : DataW H := .iface "*errors.errorString" (.ptr (.agg [.lit (.string [97, 108, 109, 111, 110, 101, 114, 58, 32, 116, 105, 103, 104, 116])]))
def laid_almoner_api_ErrDeep {H : Type} : DataW H := .iface "*errors.errorString" (.ptr (.agg [.lit (.string [97, 108, 109, 111, 110, 101, 114, 58, 32, 100, 101, 101, 112])]))
def laid_almoner_api_ErrBusy {H : Type} : DataW H := .iface "*errors.errorString" (.ptr (.agg [.lit (.string [97, 108, 109, 111, 110, 101, 114, 58, 32, 98, 117, 115, 121])]))

/-- 'almonerlaw19.RoundNewest': WHATEVER THE INPUT: true; the input reads as it did. -/
def roundNewestSpec : ChangeSpec := { name := "roundNewest", fn := fun _ => fun
  | [d1, d2, d3] => { results := [.lit (.bool true)], args := [d1, d2, d3] }
  | _ => none }
def roundNewestRow : OpenClaim := { program := "ytblfljpmkgmjaaadoor", sum := "cd6fef5087099e71d48066c02c138265f8edfedec6b81b158d71e434ee6595d1", func := "almoner/almonerlaw19.RoundNewest", spec := "roundNewest", unfollowed := true, recurses := true, named := ["almoner/api.ErrNumber", "almoner/api.ErrState", "almoner/api.ErrBallot", "almoner/api.ErrFull", "almoner/api.ErrGone"], apart := false, laid := [("almoner/api.ErrNumber", laid_almoner_api_ErrNumber), ("almoner/api.ErrGone", laid_almoner_api_ErrGone), ("almoner/api.ErrFull", laid_almoner_api_ErrFull), ("almoner/api.ErrBallot", laid_almoner_api_ErrBallot), ("almoner/api.ErrState", laid_almoner_api_ErrState)] }
def RoundNewestSaid : Prop := roundNewestRow.holds Tryd.pinned (OpenSpec.ofChange roundNewestSpec)

/-- ITS FALSE NEIGHBOUR: 'it returns false'. Refute it at one input. -/
def roundNewestWrong : ChangeSpec := { name := "roundNewest", fn := fun _ => fun
  | [d1, d2, d3] => { results := [.lit (.bool false)], args := [d1, d2, d3] }
  | _ => none }
def RoundNewestWrongFalsely : Prop := roundNewestRow.holds Tryd.pinned (OpenSpec.ofChange roundNewestWrong)

/-- 'almonerlaw19.RoundHalves': WHATEVER THE INPUT: true; the input reads as it did. -/
def roundHalvesSpec : ChangeSpec := { name := "roundHalves", fn := fun _ => fun
  | [d1, d2, d3] => { results := [.lit (.bool true)], args := [d1, d2, d3] }
  | _ => none }
def roundHalvesRow : OpenClaim := { program := "ytblfljpmkgmjaaadoor", sum := "cd6fef5087099e71d48066c02c138265f8edfedec6b81b158d71e434ee6595d1", func := "almoner/almonerlaw19.RoundHalves", spec := "roundHalves", unfollowed := true, recurses := true, named := ["almoner/api.ErrNumber", "almoner/api.ErrState", "almoner/api.ErrBallot", "almoner/api.ErrFull", "almoner/api.ErrGone"], apart := false, laid := [("almoner/api.ErrNumber", laid_almoner_api_ErrNumber), ("almoner/api.ErrGone", laid_almoner_api_ErrGone), ("almoner/api.ErrFull", laid_almoner_api_ErrFull), ("almoner/api.ErrBallot", laid_almoner_api_ErrBallot), ("almoner/api.ErrState", laid_almoner_api_ErrState)] }
def RoundHalvesSaid : Prop := roundHalvesRow.holds Tryd.pinned (OpenSpec.ofChange roundHalvesSpec)

/-- ITS FALSE NEIGHBOUR: 'it returns false'. Refute it at one input. -/
def roundHalvesWrong : ChangeSpec := { name := "roundHalves", fn := fun _ => fun
  | [d1, d2, d3] => { results := [.lit (.bool false)], args := [d1, d2, d3] }
  | _ => none }
def RoundHalvesWrongFalsely : Prop := roundHalvesRow.holds Tryd.pinned (OpenSpec.ofChange roundHalvesWrong)

/-- 'almonerlaw19.RoundReads': WHATEVER THE INPUT: true; the input reads as it did. -/
def roundReadsSpec : ChangeSpec := { name := "roundReads", fn := fun _ => fun
  | [d1, d2] => { results := [.lit (.bool true)], args := [d1, d2] }
  | _ => none }
def roundReadsRow : OpenClaim := { program := "ytblfljpmkgmjaaadoor", sum := "cd6fef5087099e71d48066c02c138265f8edfedec6b81b158d71e434ee6595d1", func := "almoner/almonerlaw19.RoundReads", spec := "roundReads", unfollowed := true, recurses := true, named := ["almoner/api.ErrState", "almoner/api.ErrNumber", "almoner/api.ErrBallot", "almoner/api.ErrFull", "almoner/api.ErrGone"], apart := false, laid := [("almoner/api.ErrNumber", laid_almoner_api_ErrNumber), ("almoner/api.ErrGone", laid_almoner_api_ErrGone), ("almoner/api.ErrFull", laid_almoner_api_ErrFull), ("almoner/api.ErrBallot", laid_almoner_api_ErrBallot), ("almoner/api.ErrState", laid_almoner_api_ErrState)] }
def RoundReadsSaid : Prop := roundReadsRow.holds Tryd.pinned (OpenSpec.ofChange roundReadsSpec)

/-- ITS FALSE NEIGHBOUR: 'it returns false'. Refute it at one input. -/
def roundReadsWrong : ChangeSpec := { name := "roundReads", fn := fun _ => fun
  | [d1, d2] => { results := [.lit (.bool false)], args := [d1, d2] }
  | _ => none }
def RoundReadsWrongFalsely : Prop := roundReadsRow.holds Tryd.pinned (OpenSpec.ofChange roundReadsWrong)

/-- 'almonerlaw19.RoundPlays': WHATEVER THE INPUT: true; the input reads as it did. -/
def roundPlaysSpec : ChangeSpec := { name := "roundPlays", fn := fun _ => fun
  | [d1, d2, d3] => { results := [.lit (.bool true)], args := [d1, d2, d3] }
  | _ => none }
def roundPlaysRow : OpenClaim := { program := "ytblfljpmkgmjaaadoor", sum := "cd6fef5087099e71d48066c02c138265f8edfedec6b81b158d71e434ee6595d1", func := "almoner/almonerlaw19.RoundPlays", spec := "roundPlays", unfollowed := true, recurses := true, named := ["almoner/api.ErrNumber", "almoner/api.ErrState", "almoner/api.ErrBallot", "almoner/api.ErrFull", "almoner/api.ErrGone", "almoner/api.ErrOver", "almoner/api.ErrBytes", "almoner/api.ErrSum", "almoner/api.ErrThere", "almoner/api.ErrLarge", "almoner/api.ErrLost", "almoner/api.ErrServer", "almoner/api.ErrTask", "almoner/api.ErrTight", "almoner/api.ErrDeep", "almoner/api.ErrBusy"], apart := false, laid := [("almoner/api.ErrNumber", laid_almoner_api_ErrNumber), ("almoner/api.ErrOver", laid_almoner_api_ErrOver), ("almoner/api.ErrBytes", laid_almoner_api_ErrBytes), ("almoner/api.ErrSum", laid_almoner_api_ErrSum), ("almoner/api.ErrGone", laid_almoner_api_ErrGone), ("almoner/api.ErrThere", laid_almoner_api_ErrThere), ("almoner/api.ErrFull", laid_almoner_api_ErrFull), ("almoner/api.ErrLarge", laid_almoner_api_ErrLarge), ("almoner/api.ErrLost", laid_almoner_api_ErrLost), ("almoner/api.ErrServer", laid_almoner_api_ErrServer), ("almoner/api.ErrTask", laid_almoner_api_ErrTask), ("almoner/api.ErrTight", laid_almoner_api_ErrTight), ("almoner/api.ErrDeep", laid_almoner_api_ErrDeep), ("almoner/api.ErrBusy", laid_almoner_api_ErrBusy), ("almoner/api.ErrBallot", laid_almoner_api_ErrBallot), ("almoner/api.ErrState", laid_almoner_api_ErrState)] }
def RoundPlaysSaid : Prop := roundPlaysRow.holds Tryd.pinned (OpenSpec.ofChange roundPlaysSpec)

/-- ITS FALSE NEIGHBOUR: 'it returns false'. Refute it at one input. -/
def roundPlaysWrong : ChangeSpec := { name := "roundPlays", fn := fun _ => fun
  | [d1, d2, d3] => { results := [.lit (.bool false)], args := [d1, d2, d3] }
  | _ => none }
def RoundPlaysWrongFalsely : Prop := roundPlaysRow.holds Tryd.pinned (OpenSpec.ofChange roundPlaysWrong)

/-- 'almonerlaw20.DeskReplies': WHATEVER THE INPUT: true; the input reads as it did. -/
def deskRepliesSpec : ChangeSpec := { name := "deskReplies", fn := fun _ => fun
  | [d1, d2, d3] => { results := [.lit (.bool true)], args := [d1, d2, d3] }
  | _ => none }
def deskRepliesRow : OpenClaim := { program := "ytblfljpmkgmjaaadoor", sum := "cd6fef5087099e71d48066c02c138265f8edfedec6b81b158d71e434ee6595d1", func := "almoner/almonerlaw20.DeskReplies", spec := "deskReplies", unfollowed := true, recurses := true, named := ["almoner/api.ErrState", "almoner/api.ErrNumber", "almoner/api.ErrLarge", "almoner/api.ErrBytes", "almoner/api.ErrSum"], apart := false, laid := [("almoner/api.ErrNumber", laid_almoner_api_ErrNumber), ("almoner/api.ErrBytes", laid_almoner_api_ErrBytes), ("almoner/api.ErrSum", laid_almoner_api_ErrSum), ("almoner/api.ErrLarge", laid_almoner_api_ErrLarge), ("almoner/api.ErrState", laid_almoner_api_ErrState)] }
def DeskRepliesSaid : Prop := deskRepliesRow.holds Tryd.pinned (OpenSpec.ofChange deskRepliesSpec)

/-- ITS FALSE NEIGHBOUR: 'it returns false'. Refute it at one input. -/
def deskRepliesWrong : ChangeSpec := { name := "deskReplies", fn := fun _ => fun
  | [d1, d2, d3] => { results := [.lit (.bool false)], args := [d1, d2, d3] }
  | _ => none }
def DeskRepliesWrongFalsely : Prop := deskRepliesRow.holds Tryd.pinned (OpenSpec.ofChange deskRepliesWrong)

/-- 'almonerlaw20.DeskAsks': WHATEVER THE INPUT: true; the input reads as it did. -/
def deskAsksSpec : ChangeSpec := { name := "deskAsks", fn := fun _ => fun
  | [d] => { results := [.lit (.bool true)], args := [d] }
  | _ => none }
def deskAsksRow : OpenClaim := { program := "ytblfljpmkgmjaaadoor", sum := "cd6fef5087099e71d48066c02c138265f8edfedec6b81b158d71e434ee6595d1", func := "almoner/almonerlaw20.DeskAsks", spec := "deskAsks", unfollowed := true, recurses := true, named := ["almoner/api.ErrState", "almoner/api.ErrNumber", "almoner/api.ErrLarge", "almoner/api.ErrBytes", "almoner/api.ErrSum"], apart := false, laid := [("almoner/api.ErrNumber", laid_almoner_api_ErrNumber), ("almoner/api.ErrBytes", laid_almoner_api_ErrBytes), ("almoner/api.ErrSum", laid_almoner_api_ErrSum), ("almoner/api.ErrLarge", laid_almoner_api_ErrLarge), ("almoner/api.ErrState", laid_almoner_api_ErrState)] }
def DeskAsksSaid : Prop := deskAsksRow.holds Tryd.pinned (OpenSpec.ofChange deskAsksSpec)

/-- ITS FALSE NEIGHBOUR: 'it returns false'. Refute it at one input. -/
def deskAsksWrong : ChangeSpec := { name := "deskAsks", fn := fun _ => fun
  | [d] => { results := [.lit (.bool false)], args := [d] }
  | _ => none }
def DeskAsksWrongFalsely : Prop := deskAsksRow.holds Tryd.pinned (OpenSpec.ofChange deskAsksWrong)

/-- 'almonerlaw20.DeskSlips': WHATEVER THE INPUT: true; the input reads as it did. -/
def deskSlipsSpec : ChangeSpec := { name := "deskSlips", fn := fun _ => fun
  | [d1, d2] => { results := [.lit (.bool true)], args := [d1, d2] }
  | _ => none }
def deskSlipsRow : OpenClaim := { program := "ytblfljpmkgmjaaadoor", sum := "cd6fef5087099e71d48066c02c138265f8edfedec6b81b158d71e434ee6595d1", func := "almoner/almonerlaw20.DeskSlips", spec := "deskSlips", unfollowed := true, recurses := true, named := ["almoner/api.ErrState", "almoner/api.ErrBytes", "almoner/api.ErrNumber", "almoner/api.ErrLarge", "almoner/api.ErrSum"], apart := false, laid := [("almoner/api.ErrNumber", laid_almoner_api_ErrNumber), ("almoner/api.ErrBytes", laid_almoner_api_ErrBytes), ("almoner/api.ErrSum", laid_almoner_api_ErrSum), ("almoner/api.ErrLarge", laid_almoner_api_ErrLarge), ("almoner/api.ErrState", laid_almoner_api_ErrState)] }
def DeskSlipsSaid : Prop := deskSlipsRow.holds Tryd.pinned (OpenSpec.ofChange deskSlipsSpec)

/-- ITS FALSE NEIGHBOUR: 'it returns false'. Refute it at one input. -/
def deskSlipsWrong : ChangeSpec := { name := "deskSlips", fn := fun _ => fun
  | [d1, d2] => { results := [.lit (.bool false)], args := [d1, d2] }
  | _ => none }
def DeskSlipsWrongFalsely : Prop := deskSlipsRow.holds Tryd.pinned (OpenSpec.ofChange deskSlipsWrong)

/-- 'almonerlaw20.DeskGets': WHATEVER THE INPUT: true; the input reads as it did. -/
def deskGetsSpec : ChangeSpec := { name := "deskGets", fn := fun _ => fun
  | [d] => { results := [.lit (.bool true)], args := [d] }
  | _ => none }
def deskGetsRow : OpenClaim := { program := "ytblfljpmkgmjaaadoor", sum := "cd6fef5087099e71d48066c02c138265f8edfedec6b81b158d71e434ee6595d1", func := "almoner/almonerlaw20.DeskGets", spec := "deskGets", unfollowed := true, recurses := true, named := ["almoner/api.ErrBytes", "almoner/api.ErrState", "almoner/api.ErrNumber", "almoner/api.ErrLarge", "almoner/api.ErrSum"], apart := false, laid := [("almoner/api.ErrNumber", laid_almoner_api_ErrNumber), ("almoner/api.ErrBytes", laid_almoner_api_ErrBytes), ("almoner/api.ErrSum", laid_almoner_api_ErrSum), ("almoner/api.ErrLarge", laid_almoner_api_ErrLarge), ("almoner/api.ErrState", laid_almoner_api_ErrState)] }
def DeskGetsSaid : Prop := deskGetsRow.holds Tryd.pinned (OpenSpec.ofChange deskGetsSpec)

/-- ITS FALSE NEIGHBOUR: 'it returns false'. Refute it at one input. -/
def deskGetsWrong : ChangeSpec := { name := "deskGets", fn := fun _ => fun
  | [d] => { results := [.lit (.bool false)], args := [d] }
  | _ => none }
def DeskGetsWrongFalsely : Prop := deskGetsRow.holds Tryd.pinned (OpenSpec.ofChange deskGetsWrong)

/- THE SECOND FORM. 'bulk': how many values and letters a reading holds, each counted each time it is reached (what is shared counts as often as it is met; a slice's spare places count too). A statement '..UptoSaid' is the law's where the arguments, and the package variables that the reading takes, are together of bulk at most 1048576: NARROWER than '..Said'. Prove '..Said' where nothing that the law and all that it calls make is longer than what came in: it says more and counts as full. Else prove '..UptoSaid'. A law counts once. -/
mutual
def uptoBulk {H : Type} : DataW H → Nat
  | .lit (.string bytes) => bytes.length + 1
  | .lit _ => 1
  | .nil => 1
  | .ptr d => uptoBulk d + 1
  | .slice elems spare => uptoBulkAll elems + uptoBulkAll spare + 1
  | .agg parts => uptoBulkAll parts + 1
  | .iface _ d => uptoBulk d + 1
  | .map entries => uptoBulkEntries entries + 1
  | .held _ => 1
def uptoBulkAll {H : Type} : List (DataW H) → Nat
  | [] => 0
  | d :: r => uptoBulk d + uptoBulkAll r
def uptoBulkEntries {H : Type} : List (Lit × DataW H) → Nat
  | [] => 0
  | x :: r => uptoBulkEntry x + uptoBulkEntries r
def uptoBulkEntry {H : Type} : Lit × DataW H → Nat
  | (.string bytes, d) => bytes.length + uptoBulk d + 1
  | (_, d) => uptoBulk d + 1
 end
def uptoSmall : (H : Type) → List (DataW H) → Bool := fun _ ds => decide (uptoBulkAll ds ≤ 1048576)
def OpenSpec.upto (s : _root_.Go.ChangeSpec) : _root_.Go.OpenSpec := { _root_.Go.OpenSpec.ofChange s with cond := some uptoSmall }

/-- 'almonerlaw19.RoundNewest', WHERE WHAT IT READS IS OF BULK AT MOST 1048576: true; the input reads as it did. -/
def roundNewestUptoRow : OpenClaim := { program := "ytblfljpmkgmjaaadoor", sum := "cd6fef5087099e71d48066c02c138265f8edfedec6b81b158d71e434ee6595d1", func := "almoner/almonerlaw19.RoundNewest", spec := "roundNewest", unfollowed := true, recurses := true, named := ["almoner/api.ErrNumber", "almoner/api.ErrState", "almoner/api.ErrBallot", "almoner/api.ErrFull", "almoner/api.ErrGone"], apart := false, laid := [("almoner/api.ErrNumber", laid_almoner_api_ErrNumber), ("almoner/api.ErrGone", laid_almoner_api_ErrGone), ("almoner/api.ErrFull", laid_almoner_api_ErrFull), ("almoner/api.ErrBallot", laid_almoner_api_ErrBallot), ("almoner/api.ErrState", laid_almoner_api_ErrState)], narrowed := true }
def RoundNewestUptoSaid : Prop := roundNewestUptoRow.holds Tryd.pinned (OpenSpec.upto roundNewestSpec)

/-- 'almonerlaw19.RoundHalves', WHERE WHAT IT READS IS OF BULK AT MOST 1048576: true; the input reads as it did. -/
def roundHalvesUptoRow : OpenClaim := { program := "ytblfljpmkgmjaaadoor", sum := "cd6fef5087099e71d48066c02c138265f8edfedec6b81b158d71e434ee6595d1", func := "almoner/almonerlaw19.RoundHalves", spec := "roundHalves", unfollowed := true, recurses := true, named := ["almoner/api.ErrNumber", "almoner/api.ErrState", "almoner/api.ErrBallot", "almoner/api.ErrFull", "almoner/api.ErrGone"], apart := false, laid := [("almoner/api.ErrNumber", laid_almoner_api_ErrNumber), ("almoner/api.ErrGone", laid_almoner_api_ErrGone), ("almoner/api.ErrFull", laid_almoner_api_ErrFull), ("almoner/api.ErrBallot", laid_almoner_api_ErrBallot), ("almoner/api.ErrState", laid_almoner_api_ErrState)], narrowed := true }
def RoundHalvesUptoSaid : Prop := roundHalvesUptoRow.holds Tryd.pinned (OpenSpec.upto roundHalvesSpec)

/-- 'almonerlaw19.RoundReads', WHERE WHAT IT READS IS OF BULK AT MOST 1048576: true; the input reads as it did. -/
def roundReadsUptoRow : OpenClaim := { program := "ytblfljpmkgmjaaadoor", sum := "cd6fef5087099e71d48066c02c138265f8edfedec6b81b158d71e434ee6595d1", func := "almoner/almonerlaw19.RoundReads", spec := "roundReads", unfollowed := true, recurses := true, named := ["almoner/api.ErrState", "almoner/api.ErrNumber", "almoner/api.ErrBallot", "almoner/api.ErrFull", "almoner/api.ErrGone"], apart := false, laid := [("almoner/api.ErrNumber", laid_almoner_api_ErrNumber), ("almoner/api.ErrGone", laid_almoner_api_ErrGone), ("almoner/api.ErrFull", laid_almoner_api_ErrFull), ("almoner/api.ErrBallot", laid_almoner_api_ErrBallot), ("almoner/api.ErrState", laid_almoner_api_ErrState)], narrowed := true }
def RoundReadsUptoSaid : Prop := roundReadsUptoRow.holds Tryd.pinned (OpenSpec.upto roundReadsSpec)

/-- 'almonerlaw19.RoundPlays', WHERE WHAT IT READS IS OF BULK AT MOST 1048576: true; the input reads as it did. -/
def roundPlaysUptoRow : OpenClaim := { program := "ytblfljpmkgmjaaadoor", sum := "cd6fef5087099e71d48066c02c138265f8edfedec6b81b158d71e434ee6595d1", func := "almoner/almonerlaw19.RoundPlays", spec := "roundPlays", unfollowed := true, recurses := true, named := ["almoner/api.ErrNumber", "almoner/api.ErrState", "almoner/api.ErrBallot", "almoner/api.ErrFull", "almoner/api.ErrGone", "almoner/api.ErrOver", "almoner/api.ErrBytes", "almoner/api.ErrSum", "almoner/api.ErrThere", "almoner/api.ErrLarge", "almoner/api.ErrLost", "almoner/api.ErrServer", "almoner/api.ErrTask", "almoner/api.ErrTight", "almoner/api.ErrDeep", "almoner/api.ErrBusy"], apart := false, laid := [("almoner/api.ErrNumber", laid_almoner_api_ErrNumber), ("almoner/api.ErrOver", laid_almoner_api_ErrOver), ("almoner/api.ErrBytes", laid_almoner_api_ErrBytes), ("almoner/api.ErrSum", laid_almoner_api_ErrSum), ("almoner/api.ErrGone", laid_almoner_api_ErrGone), ("almoner/api.ErrThere", laid_almoner_api_ErrThere), ("almoner/api.ErrFull", laid_almoner_api_ErrFull), ("almoner/api.ErrLarge", laid_almoner_api_ErrLarge), ("almoner/api.ErrLost", laid_almoner_api_ErrLost), ("almoner/api.ErrServer", laid_almoner_api_ErrServer), ("almoner/api.ErrTask", laid_almoner_api_ErrTask), ("almoner/api.ErrTight", laid_almoner_api_ErrTight), ("almoner/api.ErrDeep", laid_almoner_api_ErrDeep), ("almoner/api.ErrBusy", laid_almoner_api_ErrBusy), ("almoner/api.ErrBallot", laid_almoner_api_ErrBallot), ("almoner/api.ErrState", laid_almoner_api_ErrState)], narrowed := true }
def RoundPlaysUptoSaid : Prop := roundPlaysUptoRow.holds Tryd.pinned (OpenSpec.upto roundPlaysSpec)

/-- 'almonerlaw20.DeskReplies', WHERE WHAT IT READS IS OF BULK AT MOST 1048576: true; the input reads as it did. -/
def deskRepliesUptoRow : OpenClaim := { program := "ytblfljpmkgmjaaadoor", sum := "cd6fef5087099e71d48066c02c138265f8edfedec6b81b158d71e434ee6595d1", func := "almoner/almonerlaw20.DeskReplies", spec := "deskReplies", unfollowed := true, recurses := true, named := ["almoner/api.ErrState", "almoner/api.ErrNumber", "almoner/api.ErrLarge", "almoner/api.ErrBytes", "almoner/api.ErrSum"], apart := false, laid := [("almoner/api.ErrNumber", laid_almoner_api_ErrNumber), ("almoner/api.ErrBytes", laid_almoner_api_ErrBytes), ("almoner/api.ErrSum", laid_almoner_api_ErrSum), ("almoner/api.ErrLarge", laid_almoner_api_ErrLarge), ("almoner/api.ErrState", laid_almoner_api_ErrState)], narrowed := true }
def DeskRepliesUptoSaid : Prop := deskRepliesUptoRow.holds Tryd.pinned (OpenSpec.upto deskRepliesSpec)

/-- 'almonerlaw20.DeskAsks', WHERE WHAT IT READS IS OF BULK AT MOST 1048576: true; the input reads as it did. -/
def deskAsksUptoRow : OpenClaim := { program := "ytblfljpmkgmjaaadoor", sum := "cd6fef5087099e71d48066c02c138265f8edfedec6b81b158d71e434ee6595d1", func := "almoner/almonerlaw20.DeskAsks", spec := "deskAsks", unfollowed := true, recurses := true, named := ["almoner/api.ErrState", "almoner/api.ErrNumber", "almoner/api.ErrLarge", "almoner/api.ErrBytes", "almoner/api.ErrSum"], apart := false, laid := [("almoner/api.ErrNumber", laid_almoner_api_ErrNumber), ("almoner/api.ErrBytes", laid_almoner_api_ErrBytes), ("almoner/api.ErrSum", laid_almoner_api_ErrSum), ("almoner/api.ErrLarge", laid_almoner_api_ErrLarge), ("almoner/api.ErrState", laid_almoner_api_ErrState)], narrowed := true }
def DeskAsksUptoSaid : Prop := deskAsksUptoRow.holds Tryd.pinned (OpenSpec.upto deskAsksSpec)

/-- 'almonerlaw20.DeskSlips', WHERE WHAT IT READS IS OF BULK AT MOST 1048576: true; the input reads as it did. -/
def deskSlipsUptoRow : OpenClaim := { program := "ytblfljpmkgmjaaadoor", sum := "cd6fef5087099e71d48066c02c138265f8edfedec6b81b158d71e434ee6595d1", func := "almoner/almonerlaw20.DeskSlips", spec := "deskSlips", unfollowed := true, recurses := true, named := ["almoner/api.ErrState", "almoner/api.ErrBytes", "almoner/api.ErrNumber", "almoner/api.ErrLarge", "almoner/api.ErrSum"], apart := false, laid := [("almoner/api.ErrNumber", laid_almoner_api_ErrNumber), ("almoner/api.ErrBytes", laid_almoner_api_ErrBytes), ("almoner/api.ErrSum", laid_almoner_api_ErrSum), ("almoner/api.ErrLarge", laid_almoner_api_ErrLarge), ("almoner/api.ErrState", laid_almoner_api_ErrState)], narrowed := true }
def DeskSlipsUptoSaid : Prop := deskSlipsUptoRow.holds Tryd.pinned (OpenSpec.upto deskSlipsSpec)

/-- 'almonerlaw20.DeskGets', WHERE WHAT IT READS IS OF BULK AT MOST 1048576: true; the input reads as it did. -/
def deskGetsUptoRow : OpenClaim := { program := "ytblfljpmkgmjaaadoor", sum := "cd6fef5087099e71d48066c02c138265f8edfedec6b81b158d71e434ee6595d1", func := "almoner/almonerlaw20.DeskGets", spec := "deskGets", unfollowed := true, recurses := true, named := ["almoner/api.ErrBytes", "almoner/api.ErrState", "almoner/api.ErrNumber", "almoner/api.ErrLarge", "almoner/api.ErrSum"], apart := false, laid := [("almoner/api.ErrNumber", laid_almoner_api_ErrNumber), ("almoner/api.ErrBytes", laid_almoner_api_ErrBytes), ("almoner/api.ErrSum", laid_almoner_api_ErrSum), ("almoner/api.ErrLarge", laid_almoner_api_ErrLarge), ("almoner/api.ErrState", laid_almoner_api_ErrState)], narrowed := true }
def DeskGetsUptoSaid : Prop := deskGetsUptoRow.holds Tryd.pinned (OpenSpec.upto deskGetsSpec)

end Rows
end Go.Proofs.YtblfljpmkgmjaaaDoor
