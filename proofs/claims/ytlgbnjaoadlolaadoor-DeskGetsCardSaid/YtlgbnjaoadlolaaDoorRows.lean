/-
  NARROWER THAN 'FOR EVERY INPUT', by the rows' own cells (each row's printed sentence says how): DeskReplies: laid · DeskAsks: laid · DeskSlips: laid · DeskGets: laid.
  DERIVED. THE GIVEN ROWS OF THIS SEAT. 4 by the template 'for every input the law returns true; each argument reads behind the call as it read before'; 0 by the template 'total and deterministic' (their statements: YtlgbnjaoadlolaaDoorTotals.lean).
  GIVEN WITH THE SEED: the statements are not yours to turn. If you find one false, say at which input.
  Laid BY PROGRAM, IN A SANDBOX (cutbox-rows.mjs): the forced cells as the released guide's own fill.sh prints them over the translation 3910d8fa097429b8… (all of the seat's roots in one cut). By AI agents, Wed Nov 11 2026. No macro, syntax, notation, axiom, sorry.
-/
import Derived.Test.YtlgbnjaoadlolaaDoorChecked
import GoSem.Claim
import GoSem.ClaimJoined
import GoSem.ClaimMapViews
import Derived.JoinedTies
import Derived.KernelRfl
namespace Go.Proofs.YtlgbnjaoadlolaaDoor
/- THE CELL 'sum', in the pinned program and in every row, IS THE sha256 OF THE DUMP (.gsa) THAT YtlgbnjaoadlolaaDoorProg.lean LOADS. Nothing in Lean hashes anything: it is a label: what it is worth is what the hold of that sum in a sandbox is worth. -/
noncomputable def Tryd.pinned : Pinned := { name := "ytlgbnjaoadlolaadoor", sum := "3910d8fa097429b817d5d4d131beddecbaa8e9257ff53780aa236a20e866f456", checked := Tryd.checked }
namespace Rows
def none {H : Type} : Left H := { results := [], args := [] }

/- WHAT THE LISTED PACKAGE-LEVEL VARIABLES READ AS WHEN THE CALL BEGINS. Each datum BY PROGRAM (the guide's laid-datum.mjs) off the statement by which the dump's own 'gosem.cut.vars' lays the variable. In a bare row this is a premise. The card (YtlgbnjaoadlolaaDoorCards.lean) ties it to the program's text. -/
def laid_almoner_api_ErrNumber {H : Type} : DataW H := .iface "*errors.errorString" (.ptr (.agg [.lit (.string [97, 108, 109, 111, 110, 101, 114, 58, 32, 110, 117, 109, 98, 101, 114])]))
def laid_almoner_api_ErrBytes {H : Type} : DataW H := .iface "*errors.errorString" (.ptr (.agg [.lit (.string [97, 108, 109, 111, 110, 101, 114, 58, 32, 98, 121, 116, 101, 115])]))
def laid_almoner_api_ErrSum {H : Type} : DataW H := .iface "*errors.errorString" (.ptr (.agg [.lit (.string [97, 108, 109, 111, 110, 101, 114, 58, 32, 115, 117, 109])]))
def laid_almoner_api_ErrLarge {H : Type} : DataW H := .iface "*errors.errorString" (.ptr (.agg [.lit (.string [97, 108, 109, 111, 110, 101, 114, 58, 32, 108, 97, 114, 103, 101])]))
def laid_almoner_api_ErrState {H : Type} : DataW H := .iface "*errors.errorString" (.ptr (.agg [.lit (.string [97, 108, 109, 111, 110, 101, 114, 58, 32, 115, 116, 97, 116, 101])]))

/-- 'almonerlaw20.DeskReplies': WHATEVER THE INPUT: true; the input reads as it did. -/
def deskRepliesSpec : ChangeSpec := { name := "deskReplies", fn := fun _ => fun
  | [d1, d2, d3] => { results := [.lit (.bool true)], args := [d1, d2, d3] }
  | _ => none }
def deskRepliesRow : OpenClaim := { program := "ytlgbnjaoadlolaadoor", sum := "3910d8fa097429b817d5d4d131beddecbaa8e9257ff53780aa236a20e866f456", func := "almoner/almonerlaw20.DeskReplies", spec := "deskReplies", unfollowed := true, recurses := true, named := ["almoner/api.ErrState", "almoner/api.ErrNumber", "almoner/api.ErrLarge", "almoner/api.ErrBytes", "almoner/api.ErrSum"], apart := false, laid := [("almoner/api.ErrNumber", laid_almoner_api_ErrNumber), ("almoner/api.ErrBytes", laid_almoner_api_ErrBytes), ("almoner/api.ErrSum", laid_almoner_api_ErrSum), ("almoner/api.ErrLarge", laid_almoner_api_ErrLarge), ("almoner/api.ErrState", laid_almoner_api_ErrState)] }
def DeskRepliesSaid : Prop := deskRepliesRow.holds Tryd.pinned (OpenSpec.ofChange deskRepliesSpec)

/-- ITS FALSE NEIGHBOUR: 'it returns false'. Refute it at one input. -/
def deskRepliesWrong : ChangeSpec := { name := "deskReplies", fn := fun _ => fun
  | [d1, d2, d3] => { results := [.lit (.bool false)], args := [d1, d2, d3] }
  | _ => none }
def DeskRepliesWrongFalsely : Prop := deskRepliesRow.holds Tryd.pinned (OpenSpec.ofChange deskRepliesWrong)

/-- 'almonerlaw20.DeskAsks': WHATEVER THE INPUT: true; the input reads as it did. -/
def deskAsksSpec : ChangeSpec := { name := "deskAsks", fn := fun _ => fun
  | [d] => { results := [.lit (.bool true)], args := [d] }
  | _ => none }
def deskAsksRow : OpenClaim := { program := "ytlgbnjaoadlolaadoor", sum := "3910d8fa097429b817d5d4d131beddecbaa8e9257ff53780aa236a20e866f456", func := "almoner/almonerlaw20.DeskAsks", spec := "deskAsks", unfollowed := true, recurses := true, named := ["almoner/api.ErrState", "almoner/api.ErrNumber", "almoner/api.ErrLarge", "almoner/api.ErrBytes", "almoner/api.ErrSum"], apart := false, laid := [("almoner/api.ErrNumber", laid_almoner_api_ErrNumber), ("almoner/api.ErrBytes", laid_almoner_api_ErrBytes), ("almoner/api.ErrSum", laid_almoner_api_ErrSum), ("almoner/api.ErrLarge", laid_almoner_api_ErrLarge), ("almoner/api.ErrState", laid_almoner_api_ErrState)] }
def DeskAsksSaid : Prop := deskAsksRow.holds Tryd.pinned (OpenSpec.ofChange deskAsksSpec)

/-- ITS FALSE NEIGHBOUR: 'it returns false'. Refute it at one input. -/
def deskAsksWrong : ChangeSpec := { name := "deskAsks", fn := fun _ => fun
  | [d] => { results := [.lit (.bool false)], args := [d] }
  | _ => none }
def DeskAsksWrongFalsely : Prop := deskAsksRow.holds Tryd.pinned (OpenSpec.ofChange deskAsksWrong)

/-- 'almonerlaw20.DeskSlips': WHATEVER THE INPUT: true; the input reads as it did. -/
def deskSlipsSpec : ChangeSpec := { name := "deskSlips", fn := fun _ => fun
  | [d1, d2] => { results := [.lit (.bool true)], args := [d1, d2] }
  | _ => none }
def deskSlipsRow : OpenClaim := { program := "ytlgbnjaoadlolaadoor", sum := "3910d8fa097429b817d5d4d131beddecbaa8e9257ff53780aa236a20e866f456", func := "almoner/almonerlaw20.DeskSlips", spec := "deskSlips", unfollowed := true, recurses := true, named := ["almoner/api.ErrState", "almoner/api.ErrBytes", "almoner/api.ErrNumber", "almoner/api.ErrLarge", "almoner/api.ErrSum"], apart := false, laid := [("almoner/api.ErrNumber", laid_almoner_api_ErrNumber), ("almoner/api.ErrBytes", laid_almoner_api_ErrBytes), ("almoner/api.ErrSum", laid_almoner_api_ErrSum), ("almoner/api.ErrLarge", laid_almoner_api_ErrLarge), ("almoner/api.ErrState", laid_almoner_api_ErrState)] }
def DeskSlipsSaid : Prop := deskSlipsRow.holds Tryd.pinned (OpenSpec.ofChange deskSlipsSpec)

/-- ITS FALSE NEIGHBOUR: 'it returns false'. Refute it at one input. -/
def deskSlipsWrong : ChangeSpec := { name := "deskSlips", fn := fun _ => fun
  | [d1, d2] => { results := [.lit (.bool false)], args := [d1, d2] }
  | _ => none }
def DeskSlipsWrongFalsely : Prop := deskSlipsRow.holds Tryd.pinned (OpenSpec.ofChange deskSlipsWrong)

/-- 'almonerlaw20.DeskGets': WHATEVER THE INPUT: true; the input reads as it did. -/
def deskGetsSpec : ChangeSpec := { name := "deskGets", fn := fun _ => fun
  | [d] => { results := [.lit (.bool true)], args := [d] }
  | _ => none }
def deskGetsRow : OpenClaim := { program := "ytlgbnjaoadlolaadoor", sum := "3910d8fa097429b817d5d4d131beddecbaa8e9257ff53780aa236a20e866f456", func := "almoner/almonerlaw20.DeskGets", spec := "deskGets", unfollowed := true, recurses := true, named := ["almoner/api.ErrBytes", "almoner/api.ErrState", "almoner/api.ErrNumber", "almoner/api.ErrLarge", "almoner/api.ErrSum"], apart := false, laid := [("almoner/api.ErrNumber", laid_almoner_api_ErrNumber), ("almoner/api.ErrBytes", laid_almoner_api_ErrBytes), ("almoner/api.ErrSum", laid_almoner_api_ErrSum), ("almoner/api.ErrLarge", laid_almoner_api_ErrLarge), ("almoner/api.ErrState", laid_almoner_api_ErrState)] }
def DeskGetsSaid : Prop := deskGetsRow.holds Tryd.pinned (OpenSpec.ofChange deskGetsSpec)

/-- ITS FALSE NEIGHBOUR: 'it returns false'. Refute it at one input. -/
def deskGetsWrong : ChangeSpec := { name := "deskGets", fn := fun _ => fun
  | [d] => { results := [.lit (.bool false)], args := [d] }
  | _ => none }
def DeskGetsWrongFalsely : Prop := deskGetsRow.holds Tryd.pinned (OpenSpec.ofChange deskGetsWrong)

/- THE SECOND FORM. 'bulk': how many values and letters a reading holds, each counted each time it is reached (what is shared counts as often as it is met; a slice's spare places count too). A statement '..UptoSaid' is the law's where the arguments, and the package variables that the reading takes, are together of bulk at most 1048576: NARROWER than '..Said'. Prove '..Said' where nothing that the law and all that it calls make is longer than what came in: it says more and counts as full. Else prove '..UptoSaid'. A law counts once. -/
mutual
def uptoBulk {H : Type} : DataW H → Nat
  | .lit (.string bytes) => bytes.length + 1
  | .lit _ => 1
  | .nil => 1
  | .ptr d => uptoBulk d + 1
  | .slice elems spare => uptoBulkAll elems + uptoBulkAll spare + 1
  | .agg parts => uptoBulkAll parts + 1
  | .iface _ d => uptoBulk d + 1
  | .map entries => uptoBulkEntries entries + 1
  | .held _ => 1
def uptoBulkAll {H : Type} : List (DataW H) → Nat
  | [] => 0
  | d :: r => uptoBulk d + uptoBulkAll r
def uptoBulkEntries {H : Type} : List (Lit × DataW H) → Nat
  | [] => 0
  | x :: r => uptoBulkEntry x + uptoBulkEntries r
def uptoBulkEntry {H : Type} : Lit × DataW H → Nat
  | (.string bytes, d) => bytes.length + uptoBulk d + 1
  | (_, d) => uptoBulk d + 1
 end
def uptoSmall : (H : Type) → List (DataW H) → Bool := fun _ ds => decide (uptoBulkAll ds ≤ 1048576)
def OpenSpec.upto (s : _root_.Go.ChangeSpec) : _root_.Go.OpenSpec := { _root_.Go.OpenSpec.ofChange s with cond := some uptoSmall }

/-- 'almonerlaw20.DeskReplies', WHERE WHAT IT READS IS OF BULK AT MOST 1048576: true; the input reads as it did. -/
def deskRepliesUptoRow : OpenClaim := { program := "ytlgbnjaoadlolaadoor", sum := "3910d8fa097429b817d5d4d131beddecbaa8e9257ff53780aa236a20e866f456", func := "almoner/almonerlaw20.DeskReplies", spec := "deskReplies", unfollowed := true, recurses := true, named := ["almoner/api.ErrState", "almoner/api.ErrNumber", "almoner/api.ErrLarge", "almoner/api.ErrBytes", "almoner/api.ErrSum"], apart := false, laid := [("almoner/api.ErrNumber", laid_almoner_api_ErrNumber), ("almoner/api.ErrBytes", laid_almoner_api_ErrBytes), ("almoner/api.ErrSum", laid_almoner_api_ErrSum), ("almoner/api.ErrLarge", laid_almoner_api_ErrLarge), ("almoner/api.ErrState", laid_almoner_api_ErrState)], narrowed := true }
def DeskRepliesUptoSaid : Prop := deskRepliesUptoRow.holds Tryd.pinned (OpenSpec.upto deskRepliesSpec)

/-- 'almonerlaw20.DeskAsks', WHERE WHAT IT READS IS OF BULK AT MOST 1048576: true; the input reads as it did. -/
def deskAsksUptoRow : OpenClaim := { program := "ytlgbnjaoadlolaadoor", sum := "3910d8fa097429b817d5d4d131beddecbaa8e9257ff53780aa236a20e866f456", func := "almoner/almonerlaw20.DeskAsks", spec := "deskAsks", unfollowed := true, recurses := true, named := ["almoner/api.ErrState", "almoner/api.ErrNumber", "almoner/api.ErrLarge", "almoner/api.ErrBytes", "almoner/api.ErrSum"], apart := false, laid := [("almoner/api.ErrNumber", laid_almoner_api_ErrNumber), ("almoner/api.ErrBytes", laid_almoner_api_ErrBytes), ("almoner/api.ErrSum", laid_almoner_api_ErrSum), ("almoner/api.ErrLarge", laid_almoner_api_ErrLarge), ("almoner/api.ErrState", laid_almoner_api_ErrState)], narrowed := true }
def DeskAsksUptoSaid : Prop := deskAsksUptoRow.holds Tryd.pinned (OpenSpec.upto deskAsksSpec)

/-- 'almonerlaw20.DeskSlips', WHERE WHAT IT READS IS OF BULK AT MOST 1048576: true; the input reads as it did. -/
def deskSlipsUptoRow : OpenClaim := { program := "ytlgbnjaoadlolaadoor", sum := "3910d8fa097429b817d5d4d131beddecbaa8e9257ff53780aa236a20e866f456", func := "almoner/almonerlaw20.DeskSlips", spec := "deskSlips", unfollowed := true, recurses := true, named := ["almoner/api.ErrState", "almoner/api.ErrBytes", "almoner/api.ErrNumber", "almoner/api.ErrLarge", "almoner/api.ErrSum"], apart := false, laid := [("almoner/api.ErrNumber", laid_almoner_api_ErrNumber), ("almoner/api.ErrBytes", laid_almoner_api_ErrBytes), ("almoner/api.ErrSum", laid_almoner_api_ErrSum), ("almoner/api.ErrLarge", laid_almoner_api_ErrLarge), ("almoner/api.ErrState", laid_almoner_api_ErrState)], narrowed := true }
def DeskSlipsUptoSaid : Prop := deskSlipsUptoRow.holds Tryd.pinned (OpenSpec.upto deskSlipsSpec)

/-- 'almonerlaw20.DeskGets', WHERE WHAT IT READS IS OF BULK AT MOST 1048576: true; the input reads as it did. -/
def deskGetsUptoRow : OpenClaim := { program := "ytlgbnjaoadlolaadoor", sum := "3910d8fa097429b817d5d4d131beddecbaa8e9257ff53780aa236a20e866f456", func := "almoner/almonerlaw20.DeskGets", spec := "deskGets", unfollowed := true, recurses := true, named := ["almoner/api.ErrBytes", "almoner/api.ErrState", "almoner/api.ErrNumber", "almoner/api.ErrLarge", "almoner/api.ErrSum"], apart := false, laid := [("almoner/api.ErrNumber", laid_almoner_api_ErrNumber), ("almoner/api.ErrBytes", laid_almoner_api_ErrBytes), ("almoner/api.ErrSum", laid_almoner_api_ErrSum), ("almoner/api.ErrLarge", laid_almoner_api_ErrLarge), ("almoner/api.ErrState", laid_almoner_api_ErrState)], narrowed := true }
def DeskGetsUptoSaid : Prop := deskGetsUptoRow.holds Tryd.pinned (OpenSpec.upto deskGetsSpec)

end Rows
end Go.Proofs.YtlgbnjaoadlolaaDoor
