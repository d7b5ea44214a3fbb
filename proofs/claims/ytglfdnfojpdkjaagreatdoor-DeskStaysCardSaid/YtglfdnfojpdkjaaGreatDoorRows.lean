/-
  NARROWER THAN 'FOR EVERY INPUT', by the rows' own cells (each row's printed sentence says how): DeskAnswers: laid · DeskStays: laid.
  DERIVED. THE GIVEN ROWS OF THIS SEAT. 2 by the template 'for every input the law returns true; each argument reads behind the call as it read before'; 0 by the template 'total and deterministic' (their statements: YtglfdnfojpdkjaaGreatDoorTotals.lean).
  GIVEN WITH THE SEED: the statements are not yours to turn. If you find one false, say at which input.
  Laid BY PROGRAM, IN A SANDBOX (cutbox-rows.mjs): the forced cells as the released guide's own fill.sh prints them over the translation faf228c5649a076e… (all of the seat's roots in one cut). By AI agents, Wed Nov 11 2026. No macro, syntax, notation, axiom, sorry.
-/
import Derived.Test.YtglfdnfojpdkjaaGreatDoorChecked
import GoSem.Claim
import GoSem.ClaimJoined
import GoSem.ClaimMapViews
import Derived.JoinedTies
import Derived.KernelRfl
namespace Go.Proofs.YtglfdnfojpdkjaaGreatDoor
/- THE CELL 'sum', in the pinned program and in every row, IS THE sha256 OF THE DUMP (.gsa) THAT YtglfdnfojpdkjaaGreatDoorProg.lean LOADS. Nothing in Lean hashes anything: it is a label: what it is worth is what the hold of that sum in a sandbox is worth. -/
noncomputable def Tryz.pinned : Pinned := { name := "ytglfdnfojpdkjaagreatdoor", sum := "faf228c5649a076e208c26b02287f36977b2997a30de4754cb2bc6d6a53114a4", checked := Tryz.checked }
namespace Rows
def none {H : Type} : Left H := { results := [], args := [] }

/- WHAT THE LISTED PACKAGE-LEVEL VARIABLES READ AS WHEN THE CALL BEGINS. Each datum BY PROGRAM (the guide's laid-datum.mjs) off the statement by which the dump's own 'gosem.cut.vars' lays the variable. In a bare row this is a premise. The card (YtglfdnfojpdkjaaGreatDoorCards.lean) ties it to the program's text. -/
def laid_almoner_api_ErrNumber {H : Type} : DataW H := .iface "*errors.errorString" (.ptr (.agg [.lit (.string [97, 108, 109, 111, 110, 101, 114, 58, 32, 110, 117, 109, 98, 101, 114])]))
def laid_almoner_api_ErrGone {H : Type} : DataW H := .iface "*errors.errorString" (.ptr (.agg [.lit (.string [97, 108, 109, 111, 110, 101, 114, 58, 32, 103, 111, 110, 101])]))
def laid_almoner_api_ErrFull {H : Type} : DataW H := .iface "*errors.errorString" (.ptr (.agg [.lit (.string [97, 108, 109, 111, 110, 101, 114, 58, 32, 102, 117, 108, 108])]))
def laid_almoner_api_ErrLarge {H : Type} : DataW H := .iface "*errors.errorString" (.ptr (.agg [.lit (.string [97, 108, 109, 111, 110, 101, 114, 58, 32, 108, 97, 114, 103, 101])]))
def laid_almoner_api_ErrServer {H : Type} : DataW H := .iface "*errors.errorString" (.ptr (.agg [.lit (.string [97, 108, 109, 111, 110, 101, 114, 58, 32, 115, 101, 114, 118, 101, 114])]))
def laid_almoner_api_ErrTask {H : Type} : DataW H := .iface "*errors.errorString" (.ptr (.agg [.lit (.string [97, 108, 109, 111, 110, 101, 114, 58, 32, 116, 97, 115, 107])]))
def laid_almoner_api_ErrTight {H : Type} : DataW H := .iface "*errors.errorString" (.ptr (.agg [.lit (.string [97, 108, 109, 111, 110, 101, 114, 58, 32, 116, 105, 103, 104, 116])]))
def laid_almoner_api_ErrState {H : Type} : DataW H := .iface "*errors.errorString" (.ptr (.agg [.lit (.string [97, 108, 109, 111, 110, 101, 114, 58, 32, 115, 116, 97, 116, 101])]))

/-- 'almonerlaw20.DeskAnswers': WHATEVER THE INPUT: true; the input reads as it did. -/
def deskAnswersSpec : ChangeSpec := { name := "deskAnswers", fn := fun _ => fun
  | [d1, d2] => { results := [.lit (.bool true)], args := [d1, d2] }
  | _ => none }
def deskAnswersRow : OpenClaim := { program := "ytglfdnfojpdkjaagreatdoor", sum := "faf228c5649a076e208c26b02287f36977b2997a30de4754cb2bc6d6a53114a4", func := "almoner/almonerlaw20.DeskAnswers", spec := "deskAnswers", inPlace := ["math/bits.Add64"], unfollowed := true, recurses := true, named := ["almoner/api.ErrState", "almoner/api.ErrNumber", "almoner/api.ErrLarge", "almoner/api.ErrServer", "almoner/api.ErrTight", "almoner/api.ErrFull", "almoner/api.ErrTask", "almoner/api.ErrGone"], apart := false, laid := [("almoner/api.ErrNumber", laid_almoner_api_ErrNumber), ("almoner/api.ErrGone", laid_almoner_api_ErrGone), ("almoner/api.ErrFull", laid_almoner_api_ErrFull), ("almoner/api.ErrLarge", laid_almoner_api_ErrLarge), ("almoner/api.ErrServer", laid_almoner_api_ErrServer), ("almoner/api.ErrTask", laid_almoner_api_ErrTask), ("almoner/api.ErrTight", laid_almoner_api_ErrTight), ("almoner/api.ErrState", laid_almoner_api_ErrState)] }
def DeskAnswersSaid : Prop := deskAnswersRow.holds Tryz.pinned (OpenSpec.ofChange deskAnswersSpec)

/-- ITS FALSE NEIGHBOUR: 'it returns false'. Refute it at one input. -/
def deskAnswersWrong : ChangeSpec := { name := "deskAnswers", fn := fun _ => fun
  | [d1, d2] => { results := [.lit (.bool false)], args := [d1, d2] }
  | _ => none }
def DeskAnswersWrongFalsely : Prop := deskAnswersRow.holds Tryz.pinned (OpenSpec.ofChange deskAnswersWrong)

/-- 'almonerlaw20.DeskStays': WHATEVER THE INPUT: true; the input reads as it did. -/
def deskStaysSpec : ChangeSpec := { name := "deskStays", fn := fun _ => fun
  | [d1, d2, d3] => { results := [.lit (.bool true)], args := [d1, d2, d3] }
  | _ => none }
def deskStaysRow : OpenClaim := { program := "ytglfdnfojpdkjaagreatdoor", sum := "faf228c5649a076e208c26b02287f36977b2997a30de4754cb2bc6d6a53114a4", func := "almoner/almonerlaw20.DeskStays", spec := "deskStays", inPlace := ["math/bits.Add64"], unfollowed := true, recurses := true, named := ["almoner/api.ErrState", "almoner/api.ErrNumber", "almoner/api.ErrLarge", "almoner/api.ErrServer", "almoner/api.ErrTight", "almoner/api.ErrFull", "almoner/api.ErrTask", "almoner/api.ErrGone"], apart := false, laid := [("almoner/api.ErrNumber", laid_almoner_api_ErrNumber), ("almoner/api.ErrGone", laid_almoner_api_ErrGone), ("almoner/api.ErrFull", laid_almoner_api_ErrFull), ("almoner/api.ErrLarge", laid_almoner_api_ErrLarge), ("almoner/api.ErrServer", laid_almoner_api_ErrServer), ("almoner/api.ErrTask", laid_almoner_api_ErrTask), ("almoner/api.ErrTight", laid_almoner_api_ErrTight), ("almoner/api.ErrState", laid_almoner_api_ErrState)] }
def DeskStaysSaid : Prop := deskStaysRow.holds Tryz.pinned (OpenSpec.ofChange deskStaysSpec)

/-- ITS FALSE NEIGHBOUR: 'it returns false'. Refute it at one input. -/
def deskStaysWrong : ChangeSpec := { name := "deskStays", fn := fun _ => fun
  | [d1, d2, d3] => { results := [.lit (.bool false)], args := [d1, d2, d3] }
  | _ => none }
def DeskStaysWrongFalsely : Prop := deskStaysRow.holds Tryz.pinned (OpenSpec.ofChange deskStaysWrong)

/- THE SECOND FORM. 'bulk': how many values and letters a reading holds, each counted each time it is reached (what is shared counts as often as it is met; a slice's spare places count too). A statement '..UptoSaid' is the law's where the arguments, and the package variables that the reading takes, are together of bulk at most 1048576: NARROWER than '..Said'. Prove '..Said' where nothing that the law and all that it calls make is longer than what came in: it says more and counts as full. Else prove '..UptoSaid'. A law counts once. -/
mutual
def uptoBulk {H : Type} : DataW H → Nat
  | .lit (.string bytes) => bytes.length + 1
  | .lit _ => 1
  | .nil => 1
  | .ptr d => uptoBulk d + 1
  | .slice elems spare => uptoBulkAll elems + uptoBulkAll spare + 1
  | .agg parts => uptoBulkAll parts + 1
  | .iface _ d => uptoBulk d + 1
  | .map entries => uptoBulkEntries entries + 1
  | .held _ => 1
def uptoBulkAll {H : Type} : List (DataW H) → Nat
  | [] => 0
  | d :: r => uptoBulk d + uptoBulkAll r
def uptoBulkEntries {H : Type} : List (Lit × DataW H) → Nat
  | [] => 0
  | x :: r => uptoBulkEntry x + uptoBulkEntries r
def uptoBulkEntry {H : Type} : Lit × DataW H → Nat
  | (.string bytes, d) => bytes.length + uptoBulk d + 1
  | (_, d) => uptoBulk d + 1
 end
def uptoSmall : (H : Type) → List (DataW H) → Bool := fun _ ds => decide (uptoBulkAll ds ≤ 1048576)
def OpenSpec.upto (s : _root_.Go.ChangeSpec) : _root_.Go.OpenSpec := { _root_.Go.OpenSpec.ofChange s with cond := some uptoSmall }

/-- 'almonerlaw20.DeskAnswers', WHERE WHAT IT READS IS OF BULK AT MOST 1048576: true; the input reads as it did. -/
def deskAnswersUptoRow : OpenClaim := { program := "ytglfdnfojpdkjaagreatdoor", sum := "faf228c5649a076e208c26b02287f36977b2997a30de4754cb2bc6d6a53114a4", func := "almoner/almonerlaw20.DeskAnswers", spec := "deskAnswers", inPlace := ["math/bits.Add64"], unfollowed := true, recurses := true, named := ["almoner/api.ErrState", "almoner/api.ErrNumber", "almoner/api.ErrLarge", "almoner/api.ErrServer", "almoner/api.ErrTight", "almoner/api.ErrFull", "almoner/api.ErrTask", "almoner/api.ErrGone"], apart := false, laid := [("almoner/api.ErrNumber", laid_almoner_api_ErrNumber), ("almoner/api.ErrGone", laid_almoner_api_ErrGone), ("almoner/api.ErrFull", laid_almoner_api_ErrFull), ("almoner/api.ErrLarge", laid_almoner_api_ErrLarge), ("almoner/api.ErrServer", laid_almoner_api_ErrServer), ("almoner/api.ErrTask", laid_almoner_api_ErrTask), ("almoner/api.ErrTight", laid_almoner_api_ErrTight), ("almoner/api.ErrState", laid_almoner_api_ErrState)], narrowed := true }
def DeskAnswersUptoSaid : Prop := deskAnswersUptoRow.holds Tryz.pinned (OpenSpec.upto deskAnswersSpec)

/-- 'almonerlaw20.DeskStays', WHERE WHAT IT READS IS OF BULK AT MOST 1048576: true; the input reads as it did. -/
def deskStaysUptoRow : OpenClaim := { program := "ytglfdnfojpdkjaagreatdoor", sum := "faf228c5649a076e208c26b02287f36977b2997a30de4754cb2bc6d6a53114a4", func := "almoner/almonerlaw20.DeskStays", spec := "deskStays", inPlace := ["math/bits.Add64"], unfollowed := true, recurses := true, named := ["almoner/api.ErrState", "almoner/api.ErrNumber", "almoner/api.ErrLarge", "almoner/api.ErrServer", "almoner/api.ErrTight", "almoner/api.ErrFull", "almoner/api.ErrTask", "almoner/api.ErrGone"], apart := false, laid := [("almoner/api.ErrNumber", laid_almoner_api_ErrNumber), ("almoner/api.ErrGone", laid_almoner_api_ErrGone), ("almoner/api.ErrFull", laid_almoner_api_ErrFull), ("almoner/api.ErrLarge", laid_almoner_api_ErrLarge), ("almoner/api.ErrServer", laid_almoner_api_ErrServer), ("almoner/api.ErrTask", laid_almoner_api_ErrTask), ("almoner/api.ErrTight", laid_almoner_api_ErrTight), ("almoner/api.ErrState", laid_almoner_api_ErrState)], narrowed := true }
def DeskStaysUptoSaid : Prop := deskStaysUptoRow.holds Tryz.pinned (OpenSpec.upto deskStaysSpec)

end Rows
end Go.Proofs.YtglfdnfojpdkjaaGreatDoor
