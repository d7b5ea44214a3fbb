/-
  NARROWER THAN 'FOR EVERY INPUT', by the rows' own cells (each row's printed sentence says how): AdmitHalf: laid · AdmitRuns: laid · AdmitFewer: laid · AdmitBeyond: laid · AdmitShorter: laid.
  DERIVED. THE GIVEN ROWS OF THIS SEAT. 5 by the template 'for every input the law returns true; each argument reads behind the call as it read before'; 0 by the template 'total and deterministic' (their statements: YtmookdgeblcjnaaDoorTotals.lean).
  GIVEN WITH THE SEED: the statements are not yours to turn. If you find one false, say at which input.
  Laid BY PROGRAM, IN A SANDBOX (cutbox-rows.mjs): the forced cells as the released guide's own fill.sh prints them over the translation 2a66827a09e2ff8f… (all of the seat's roots in one cut). By AI agents, Wed Nov 11 2026. No macro, syntax, notation, axiom, sorry.
-/
import Derived.Test.YtmookdgeblcjnaaDoorChecked
import GoSem.Claim
import GoSem.ClaimJoined
import GoSem.ClaimMapViews
import Derived.JoinedTies
import Derived.KernelRfl
namespace Go.Proofs.YtmookdgeblcjnaaDoor
/- THE CELL 'sum', in the pinned program and in every row, IS THE sha256 OF THE DUMP (.gsa) THAT YtmookdgeblcjnaaDoorProg.lean LOADS. Nothing in Lean hashes anything: it is a label: what it is worth is what the hold of that sum in a sandbox is worth. -/
noncomputable def Tryd.pinned : Pinned := { name := "ytmookdgeblcjnaadoor", sum := "2a66827a09e2ff8f78fc945c44ecaddfdb0053abf2f15b87cfe18eca5ed0bba0", checked := Tryd.checked }
namespace Rows
def none {H : Type} : Left H := { results := [], args := [] }

/- WHAT THE LISTED PACKAGE-LEVEL VARIABLES READ AS WHEN THE CALL BEGINS. Each datum BY PROGRAM (the guide's laid-datum.mjs) off the statement by which the dump's own 'gosem.cut.vars' lays the variable. In a bare row this is a premise. The card (YtmookdgeblcjnaaDoorCards.lean) ties it to the program's text. -/
def laid_almoner_api_ErrNumber {H : Type} : DataW H := .iface "*errors.errorString" (.ptr (.agg [.lit (.string [97, 108, 109, 111, 110, 101, 114, 58, 32, 110, 117, 109, 98, 101, 114])]))
def laid_almoner_api_ErrFull {H : Type} : DataW H := .iface "*errors.errorString" (.ptr (.agg [.lit (.string [97, 108, 109, 111, 110, 101, 114, 58, 32, 102, 117, 108, 108])]))
def laid_almoner_api_ErrServer {H : Type} : DataW H := .iface "*errors.errorString" (.ptr (.agg [.lit (.string [97, 108, 109, 111, 110, 101, 114, 58, 32, 115, 101, 114, 118, 101, 114])]))
def laid_almoner_api_ErrTask {H : Type} : DataW H := .iface "*errors.errorString" (.ptr (.agg [.lit (.string [97, 108, 109, 111, 110, 101, 114, 58, 32, 116, 97, 115, 107])]))
def laid_almoner_api_ErrTight {H : Type} : DataW H := .iface "*errors.errorString" (.ptr (.agg [.lit (.string [97, 108, 109, 111, 110, 101, 114, 58, 32, 116, 105, 103, 104, 116])]))

/-- 'almonerlaw12.AdmitHalf': WHATEVER THE INPUT: true; the input reads as it did. -/
def admitHalfSpec : ChangeSpec := { name := "admitHalf", fn := fun _ => fun
  | [d1, d2, d3] => { results := [.lit (.bool true)], args := [d1, d2, d3] }
  | _ => none }
def admitHalfRow : OpenClaim := { program := "ytmookdgeblcjnaadoor", sum := "2a66827a09e2ff8f78fc945c44ecaddfdb0053abf2f15b87cfe18eca5ed0bba0", func := "almoner/almonerlaw12.AdmitHalf", spec := "admitHalf", inPlace := ["math/bits.Add64"], unfollowed := true, recurses := true, named := ["almoner/api.ErrServer", "almoner/api.ErrTight", "almoner/api.ErrFull", "almoner/api.ErrNumber", "almoner/api.ErrTask"], apart := false, laid := [("almoner/api.ErrNumber", laid_almoner_api_ErrNumber), ("almoner/api.ErrFull", laid_almoner_api_ErrFull), ("almoner/api.ErrServer", laid_almoner_api_ErrServer), ("almoner/api.ErrTask", laid_almoner_api_ErrTask), ("almoner/api.ErrTight", laid_almoner_api_ErrTight)] }
def AdmitHalfSaid : Prop := admitHalfRow.holds Tryd.pinned (OpenSpec.ofChange admitHalfSpec)

/-- ITS FALSE NEIGHBOUR: 'it returns false'. Refute it at one input. -/
def admitHalfWrong : ChangeSpec := { name := "admitHalf", fn := fun _ => fun
  | [d1, d2, d3] => { results := [.lit (.bool false)], args := [d1, d2, d3] }
  | _ => none }
def AdmitHalfWrongFalsely : Prop := admitHalfRow.holds Tryd.pinned (OpenSpec.ofChange admitHalfWrong)

/-- 'almonerlaw12.AdmitRuns': WHATEVER THE INPUT: true; the input reads as it did. -/
def admitRunsSpec : ChangeSpec := { name := "admitRuns", fn := fun _ => fun
  | [d1, d2] => { results := [.lit (.bool true)], args := [d1, d2] }
  | _ => none }
def admitRunsRow : OpenClaim := { program := "ytmookdgeblcjnaadoor", sum := "2a66827a09e2ff8f78fc945c44ecaddfdb0053abf2f15b87cfe18eca5ed0bba0", func := "almoner/almonerlaw12.AdmitRuns", spec := "admitRuns", inPlace := ["math/bits.Add64"], unfollowed := true, recurses := true, named := ["almoner/api.ErrTight", "almoner/api.ErrServer", "almoner/api.ErrFull", "almoner/api.ErrNumber", "almoner/api.ErrTask"], apart := false, laid := [("almoner/api.ErrNumber", laid_almoner_api_ErrNumber), ("almoner/api.ErrFull", laid_almoner_api_ErrFull), ("almoner/api.ErrServer", laid_almoner_api_ErrServer), ("almoner/api.ErrTask", laid_almoner_api_ErrTask), ("almoner/api.ErrTight", laid_almoner_api_ErrTight)] }
def AdmitRunsSaid : Prop := admitRunsRow.holds Tryd.pinned (OpenSpec.ofChange admitRunsSpec)

/-- ITS FALSE NEIGHBOUR: 'it returns false'. Refute it at one input. -/
def admitRunsWrong : ChangeSpec := { name := "admitRuns", fn := fun _ => fun
  | [d1, d2] => { results := [.lit (.bool false)], args := [d1, d2] }
  | _ => none }
def AdmitRunsWrongFalsely : Prop := admitRunsRow.holds Tryd.pinned (OpenSpec.ofChange admitRunsWrong)

/-- 'almonerlaw12.AdmitFewer': WHATEVER THE INPUT: true; the input reads as it did. -/
def admitFewerSpec : ChangeSpec := { name := "admitFewer", fn := fun _ => fun
  | [d] => { results := [.lit (.bool true)], args := [d] }
  | _ => none }
def admitFewerRow : OpenClaim := { program := "ytmookdgeblcjnaadoor", sum := "2a66827a09e2ff8f78fc945c44ecaddfdb0053abf2f15b87cfe18eca5ed0bba0", func := "almoner/almonerlaw12.AdmitFewer", spec := "admitFewer", inPlace := ["math/bits.Add64"], unfollowed := true, recurses := true, named := ["almoner/api.ErrTight", "almoner/api.ErrServer", "almoner/api.ErrFull", "almoner/api.ErrNumber", "almoner/api.ErrTask"], apart := false, laid := [("almoner/api.ErrNumber", laid_almoner_api_ErrNumber), ("almoner/api.ErrFull", laid_almoner_api_ErrFull), ("almoner/api.ErrServer", laid_almoner_api_ErrServer), ("almoner/api.ErrTask", laid_almoner_api_ErrTask), ("almoner/api.ErrTight", laid_almoner_api_ErrTight)] }
def AdmitFewerSaid : Prop := admitFewerRow.holds Tryd.pinned (OpenSpec.ofChange admitFewerSpec)

/-- ITS FALSE NEIGHBOUR: 'it returns false'. Refute it at one input. -/
def admitFewerWrong : ChangeSpec := { name := "admitFewer", fn := fun _ => fun
  | [d] => { results := [.lit (.bool false)], args := [d] }
  | _ => none }
def AdmitFewerWrongFalsely : Prop := admitFewerRow.holds Tryd.pinned (OpenSpec.ofChange admitFewerWrong)

/-- 'almonerlaw12.AdmitBeyond': WHATEVER THE INPUT: true; the input reads as it did. -/
def admitBeyondSpec : ChangeSpec := { name := "admitBeyond", fn := fun _ => fun
  | [d] => { results := [.lit (.bool true)], args := [d] }
  | _ => none }
def admitBeyondRow : OpenClaim := { program := "ytmookdgeblcjnaadoor", sum := "2a66827a09e2ff8f78fc945c44ecaddfdb0053abf2f15b87cfe18eca5ed0bba0", func := "almoner/almonerlaw12.AdmitBeyond", spec := "admitBeyond", inPlace := ["math/bits.Add64"], unfollowed := true, recurses := true, named := ["almoner/api.ErrTight", "almoner/api.ErrServer", "almoner/api.ErrFull", "almoner/api.ErrNumber", "almoner/api.ErrTask"], apart := false, laid := [("almoner/api.ErrNumber", laid_almoner_api_ErrNumber), ("almoner/api.ErrFull", laid_almoner_api_ErrFull), ("almoner/api.ErrServer", laid_almoner_api_ErrServer), ("almoner/api.ErrTask", laid_almoner_api_ErrTask), ("almoner/api.ErrTight", laid_almoner_api_ErrTight)] }
def AdmitBeyondSaid : Prop := admitBeyondRow.holds Tryd.pinned (OpenSpec.ofChange admitBeyondSpec)

/-- ITS FALSE NEIGHBOUR: 'it returns false'. Refute it at one input. -/
def admitBeyondWrong : ChangeSpec := { name := "admitBeyond", fn := fun _ => fun
  | [d] => { results := [.lit (.bool false)], args := [d] }
  | _ => none }
def AdmitBeyondWrongFalsely : Prop := admitBeyondRow.holds Tryd.pinned (OpenSpec.ofChange admitBeyondWrong)

/-- 'almonerlaw12.AdmitShorter': WHATEVER THE INPUT: true; the input reads as it did. -/
def admitShorterSpec : ChangeSpec := { name := "admitShorter", fn := fun _ => fun
  | [d1, d2] => { results := [.lit (.bool true)], args := [d1, d2] }
  | _ => none }
def admitShorterRow : OpenClaim := { program := "ytmookdgeblcjnaadoor", sum := "2a66827a09e2ff8f78fc945c44ecaddfdb0053abf2f15b87cfe18eca5ed0bba0", func := "almoner/almonerlaw12.AdmitShorter", spec := "admitShorter", inPlace := ["math/bits.Add64"], unfollowed := true, recurses := true, named := ["almoner/api.ErrTight", "almoner/api.ErrServer", "almoner/api.ErrFull", "almoner/api.ErrNumber", "almoner/api.ErrTask"], apart := false, laid := [("almoner/api.ErrNumber", laid_almoner_api_ErrNumber), ("almoner/api.ErrFull", laid_almoner_api_ErrFull), ("almoner/api.ErrServer", laid_almoner_api_ErrServer), ("almoner/api.ErrTask", laid_almoner_api_ErrTask), ("almoner/api.ErrTight", laid_almoner_api_ErrTight)] }
def AdmitShorterSaid : Prop := admitShorterRow.holds Tryd.pinned (OpenSpec.ofChange admitShorterSpec)

/-- ITS FALSE NEIGHBOUR: 'it returns false'. Refute it at one input. -/
def admitShorterWrong : ChangeSpec := { name := "admitShorter", fn := fun _ => fun
  | [d1, d2] => { results := [.lit (.bool false)], args := [d1, d2] }
  | _ => none }
def AdmitShorterWrongFalsely : Prop := admitShorterRow.holds Tryd.pinned (OpenSpec.ofChange admitShorterWrong)

/- THE SECOND FORM. 'bulk': how many values and letters a reading holds, each counted each time it is reached (what is shared counts as often as it is met; a slice's spare places count too). A statement '..UptoSaid' is the law's where the arguments, and the package variables that the reading takes, are together of bulk at most 1048576: NARROWER than '..Said'. Prove '..Said' where nothing that the law and all that it calls make is longer than what came in: it says more and counts as full. Else prove '..UptoSaid'. A law counts once. -/
mutual
def uptoBulk {H : Type} : DataW H → Nat
  | .lit (.string bytes) => bytes.length + 1
  | .lit _ => 1
  | .nil => 1
  | .ptr d => uptoBulk d + 1
  | .slice elems spare => uptoBulkAll elems + uptoBulkAll spare + 1
  | .agg parts => uptoBulkAll parts + 1
  | .iface _ d => uptoBulk d + 1
  | .map entries => uptoBulkEntries entries + 1
  | .held _ => 1
def uptoBulkAll {H : Type} : List (DataW H) → Nat
  | [] => 0
  | d :: r => uptoBulk d + uptoBulkAll r
def uptoBulkEntries {H : Type} : List (Lit × DataW H) → Nat
  | [] => 0
  | x :: r => uptoBulkEntry x + uptoBulkEntries r
def uptoBulkEntry {H : Type} : Lit × DataW H → Nat
  | (.string bytes, d) => bytes.length + uptoBulk d + 1
  | (_, d) => uptoBulk d + 1
 end
def uptoSmall : (H : Type) → List (DataW H) → Bool := fun _ ds => decide (uptoBulkAll ds ≤ 1048576)
def OpenSpec.upto (s : _root_.Go.ChangeSpec) : _root_.Go.OpenSpec := { _root_.Go.OpenSpec.ofChange s with cond := some uptoSmall }

/-- 'almonerlaw12.AdmitHalf', WHERE WHAT IT READS IS OF BULK AT MOST 1048576: true; the input reads as it did. -/
def admitHalfUptoRow : OpenClaim := { program := "ytmookdgeblcjnaadoor", sum := "2a66827a09e2ff8f78fc945c44ecaddfdb0053abf2f15b87cfe18eca5ed0bba0", func := "almoner/almonerlaw12.AdmitHalf", spec := "admitHalf", inPlace := ["math/bits.Add64"], unfollowed := true, recurses := true, named := ["almoner/api.ErrServer", "almoner/api.ErrTight", "almoner/api.ErrFull", "almoner/api.ErrNumber", "almoner/api.ErrTask"], apart := false, laid := [("almoner/api.ErrNumber", laid_almoner_api_ErrNumber), ("almoner/api.ErrFull", laid_almoner_api_ErrFull), ("almoner/api.ErrServer", laid_almoner_api_ErrServer), ("almoner/api.ErrTask", laid_almoner_api_ErrTask), ("almoner/api.ErrTight", laid_almoner_api_ErrTight)], narrowed := true }
def AdmitHalfUptoSaid : Prop := admitHalfUptoRow.holds Tryd.pinned (OpenSpec.upto admitHalfSpec)

/-- 'almonerlaw12.AdmitRuns', WHERE WHAT IT READS IS OF BULK AT MOST 1048576: true; the input reads as it did. -/
def admitRunsUptoRow : OpenClaim := { program := "ytmookdgeblcjnaadoor", sum := "2a66827a09e2ff8f78fc945c44ecaddfdb0053abf2f15b87cfe18eca5ed0bba0", func := "almoner/almonerlaw12.AdmitRuns", spec := "admitRuns", inPlace := ["math/bits.Add64"], unfollowed := true, recurses := true, named := ["almoner/api.ErrTight", "almoner/api.ErrServer", "almoner/api.ErrFull", "almoner/api.ErrNumber", "almoner/api.ErrTask"], apart := false, laid := [("almoner/api.ErrNumber", laid_almoner_api_ErrNumber), ("almoner/api.ErrFull", laid_almoner_api_ErrFull), ("almoner/api.ErrServer", laid_almoner_api_ErrServer), ("almoner/api.ErrTask", laid_almoner_api_ErrTask), ("almoner/api.ErrTight", laid_almoner_api_ErrTight)], narrowed := true }
def AdmitRunsUptoSaid : Prop := admitRunsUptoRow.holds Tryd.pinned (OpenSpec.upto admitRunsSpec)

/-- 'almonerlaw12.AdmitFewer', WHERE WHAT IT READS IS OF BULK AT MOST 1048576: true; the input reads as it did. -/
def admitFewerUptoRow : OpenClaim := { program := "ytmookdgeblcjnaadoor", sum := "2a66827a09e2ff8f78fc945c44ecaddfdb0053abf2f15b87cfe18eca5ed0bba0", func := "almoner/almonerlaw12.AdmitFewer", spec := "admitFewer", inPlace := ["math/bits.Add64"], unfollowed := true, recurses := true, named := ["almoner/api.ErrTight", "almoner/api.ErrServer", "almoner/api.ErrFull", "almoner/api.ErrNumber", "almoner/api.ErrTask"], apart := false, laid := [("almoner/api.ErrNumber", laid_almoner_api_ErrNumber), ("almoner/api.ErrFull", laid_almoner_api_ErrFull), ("almoner/api.ErrServer", laid_almoner_api_ErrServer), ("almoner/api.ErrTask", laid_almoner_api_ErrTask), ("almoner/api.ErrTight", laid_almoner_api_ErrTight)], narrowed := true }
def AdmitFewerUptoSaid : Prop := admitFewerUptoRow.holds Tryd.pinned (OpenSpec.upto admitFewerSpec)

/-- 'almonerlaw12.AdmitBeyond', WHERE WHAT IT READS IS OF BULK AT MOST 1048576: true; the input reads as it did. -/
def admitBeyondUptoRow : OpenClaim := { program := "ytmookdgeblcjnaadoor", sum := "2a66827a09e2ff8f78fc945c44ecaddfdb0053abf2f15b87cfe18eca5ed0bba0", func := "almoner/almonerlaw12.AdmitBeyond", spec := "admitBeyond", inPlace := ["math/bits.Add64"], unfollowed := true, recurses := true, named := ["almoner/api.ErrTight", "almoner/api.ErrServer", "almoner/api.ErrFull", "almoner/api.ErrNumber", "almoner/api.ErrTask"], apart := false, laid := [("almoner/api.ErrNumber", laid_almoner_api_ErrNumber), ("almoner/api.ErrFull", laid_almoner_api_ErrFull), ("almoner/api.ErrServer", laid_almoner_api_ErrServer), ("almoner/api.ErrTask", laid_almoner_api_ErrTask), ("almoner/api.ErrTight", laid_almoner_api_ErrTight)], narrowed := true }
def AdmitBeyondUptoSaid : Prop := admitBeyondUptoRow.holds Tryd.pinned (OpenSpec.upto admitBeyondSpec)

/-- 'almonerlaw12.AdmitShorter', WHERE WHAT IT READS IS OF BULK AT MOST 1048576: true; the input reads as it did. -/
def admitShorterUptoRow : OpenClaim := { program := "ytmookdgeblcjnaadoor", sum := "2a66827a09e2ff8f78fc945c44ecaddfdb0053abf2f15b87cfe18eca5ed0bba0", func := "almoner/almonerlaw12.AdmitShorter", spec := "admitShorter", inPlace := ["math/bits.Add64"], unfollowed := true, recurses := true, named := ["almoner/api.ErrTight", "almoner/api.ErrServer", "almoner/api.ErrFull", "almoner/api.ErrNumber", "almoner/api.ErrTask"], apart := false, laid := [("almoner/api.ErrNumber", laid_almoner_api_ErrNumber), ("almoner/api.ErrFull", laid_almoner_api_ErrFull), ("almoner/api.ErrServer", laid_almoner_api_ErrServer), ("almoner/api.ErrTask", laid_almoner_api_ErrTask), ("almoner/api.ErrTight", laid_almoner_api_ErrTight)], narrowed := true }
def AdmitShorterUptoSaid : Prop := admitShorterUptoRow.holds Tryd.pinned (OpenSpec.upto admitShorterSpec)

end Rows
end Go.Proofs.YtmookdgeblcjnaaDoor
