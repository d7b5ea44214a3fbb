/-
  NARROWER THAN 'FOR EVERY INPUT', by the rows' own cells (each row's printed sentence says how): TreeRefused: laid · TreeGhosts: laid · TreeIds: laid · TreeTimes: laid.
  DERIVED. THE GIVEN ROWS OF THIS SEAT. 4 by the template 'for every input the law returns true; each argument reads behind the call as it read before'; 0 by the template 'total and deterministic' (their statements: YtanfgipanfjcoaaDoorTotals.lean).
  GIVEN WITH THE SEED: the statements are not yours to turn. If you find one false, say at which input.
  Laid BY PROGRAM, IN A SANDBOX (cutbox-rows.mjs): the forced cells as the released guide's own fill.sh prints them over the translation f304a702833a0bf5… (all of the seat's roots in one cut). By AI agents, Wed Nov 11 2026. No macro, syntax, notation, axiom, sorry.
-/
import Derived.Test.YtanfgipanfjcoaaDoorChecked
import GoSem.Claim
import GoSem.ClaimJoined
import GoSem.ClaimMapViews
import Derived.JoinedTies
import Derived.KernelRfl
namespace Go.Proofs.YtanfgipanfjcoaaDoor
/- THE CELL 'sum', in the pinned program and in every row, IS THE sha256 OF THE DUMP (.gsa) THAT YtanfgipanfjcoaaDoorProg.lean LOADS. Nothing in Lean hashes anything: it is a label: what it is worth is what the hold of that sum in a sandbox is worth. -/
noncomputable def Tryd.pinned : Pinned := { name := "ytanfgipanfjcoaadoor", sum := "f304a702833a0bf58d47b136645f363a101cf1e57b724d4447cd665f3063b1b3", checked := Tryd.checked }
namespace Rows
def none {H : Type} : Left H := { results := [], args := [] }

/- WHAT THE LISTED PACKAGE-LEVEL VARIABLES READ AS WHEN THE CALL BEGINS. Each datum BY PROGRAM (the guide's laid-datum.mjs) off the statement by which the dump's own 'gosem.cut.vars' lays the variable. In a bare row this is a premise. The card (YtanfgipanfjcoaaDoorCards.lean) ties it to the program's text. -/
def laid_almoner_api_ErrNumber {H : Type} : DataW H := .iface "*errors.errorString" (.ptr (.agg [.lit (.string [97, 108, 109, 111, 110, 101, 114, 58, 32, 110, 117, 109, 98, 101, 114])]))
def laid_almoner_api_ErrFull {H : Type} : DataW H := .iface "*errors.errorString" (.ptr (.agg [.lit (.string [97, 108, 109, 111, 110, 101, 114, 58, 32, 102, 117, 108, 108])]))
def laid_almoner_api_ErrServer {H : Type} : DataW H := .iface "*errors.errorString" (.ptr (.agg [.lit (.string [97, 108, 109, 111, 110, 101, 114, 58, 32, 115, 101, 114, 118, 101, 114])]))
def laid_almoner_api_ErrTask {H : Type} : DataW H := .iface "*errors.errorString" (.ptr (.agg [.lit (.string [97, 108, 109, 111, 110, 101, 114, 58, 32, 116, 97, 115, 107])]))
def laid_almoner_api_ErrTight {H : Type} : DataW H := .iface "*errors.errorString" (.ptr (.agg [.lit (.string [97, 108, 109, 111, 110, 101, 114, 58, 32, 116, 105, 103, 104, 116])]))

/-- 'almonerlaw13.TreeRefused': WHATEVER THE INPUT: true; the input reads as it did. -/
def treeRefusedSpec : ChangeSpec := { name := "treeRefused", fn := fun _ => fun
  | [d1, d2] => { results := [.lit (.bool true)], args := [d1, d2] }
  | _ => none }
def treeRefusedRow : OpenClaim := { program := "ytanfgipanfjcoaadoor", sum := "f304a702833a0bf58d47b136645f363a101cf1e57b724d4447cd665f3063b1b3", func := "almoner/almonerlaw13.TreeRefused", spec := "treeRefused", inPlace := ["math/bits.Add64"], unfollowed := true, recurses := true, named := ["almoner/api.ErrServer", "almoner/api.ErrTight", "almoner/api.ErrFull", "almoner/api.ErrNumber", "almoner/api.ErrTask"], apart := false, laid := [("almoner/api.ErrNumber", laid_almoner_api_ErrNumber), ("almoner/api.ErrFull", laid_almoner_api_ErrFull), ("almoner/api.ErrServer", laid_almoner_api_ErrServer), ("almoner/api.ErrTask", laid_almoner_api_ErrTask), ("almoner/api.ErrTight", laid_almoner_api_ErrTight)] }
def TreeRefusedSaid : Prop := treeRefusedRow.holds Tryd.pinned (OpenSpec.ofChange treeRefusedSpec)

/-- ITS FALSE NEIGHBOUR: 'it returns false'. Refute it at one input. -/
def treeRefusedWrong : ChangeSpec := { name := "treeRefused", fn := fun _ => fun
  | [d1, d2] => { results := [.lit (.bool false)], args := [d1, d2] }
  | _ => none }
def TreeRefusedWrongFalsely : Prop := treeRefusedRow.holds Tryd.pinned (OpenSpec.ofChange treeRefusedWrong)

/-- 'almonerlaw13.TreeGhosts': WHATEVER THE INPUT: true; the input reads as it did. -/
def treeGhostsSpec : ChangeSpec := { name := "treeGhosts", fn := fun _ => fun
  | [d] => { results := [.lit (.bool true)], args := [d] }
  | _ => none }
def treeGhostsRow : OpenClaim := { program := "ytanfgipanfjcoaadoor", sum := "f304a702833a0bf58d47b136645f363a101cf1e57b724d4447cd665f3063b1b3", func := "almoner/almonerlaw13.TreeGhosts", spec := "treeGhosts", inPlace := ["math/bits.Add64"], unfollowed := true, recurses := true, named := ["almoner/api.ErrServer", "almoner/api.ErrTight", "almoner/api.ErrFull", "almoner/api.ErrNumber", "almoner/api.ErrTask"], apart := false, laid := [("almoner/api.ErrNumber", laid_almoner_api_ErrNumber), ("almoner/api.ErrFull", laid_almoner_api_ErrFull), ("almoner/api.ErrServer", laid_almoner_api_ErrServer), ("almoner/api.ErrTask", laid_almoner_api_ErrTask), ("almoner/api.ErrTight", laid_almoner_api_ErrTight)] }
def TreeGhostsSaid : Prop := treeGhostsRow.holds Tryd.pinned (OpenSpec.ofChange treeGhostsSpec)

/-- ITS FALSE NEIGHBOUR: 'it returns false'. Refute it at one input. -/
def treeGhostsWrong : ChangeSpec := { name := "treeGhosts", fn := fun _ => fun
  | [d] => { results := [.lit (.bool false)], args := [d] }
  | _ => none }
def TreeGhostsWrongFalsely : Prop := treeGhostsRow.holds Tryd.pinned (OpenSpec.ofChange treeGhostsWrong)

/-- 'almonerlaw13.TreeIds': WHATEVER THE INPUT: true; the input reads as it did. -/
def treeIdsSpec : ChangeSpec := { name := "treeIds", fn := fun _ => fun
  | [d] => { results := [.lit (.bool true)], args := [d] }
  | _ => none }
def treeIdsRow : OpenClaim := { program := "ytanfgipanfjcoaadoor", sum := "f304a702833a0bf58d47b136645f363a101cf1e57b724d4447cd665f3063b1b3", func := "almoner/almonerlaw13.TreeIds", spec := "treeIds", inPlace := ["math/bits.Add64"], unfollowed := true, recurses := true, named := ["almoner/api.ErrServer", "almoner/api.ErrTight", "almoner/api.ErrFull", "almoner/api.ErrNumber", "almoner/api.ErrTask"], apart := false, laid := [("almoner/api.ErrNumber", laid_almoner_api_ErrNumber), ("almoner/api.ErrFull", laid_almoner_api_ErrFull), ("almoner/api.ErrServer", laid_almoner_api_ErrServer), ("almoner/api.ErrTask", laid_almoner_api_ErrTask), ("almoner/api.ErrTight", laid_almoner_api_ErrTight)] }
def TreeIdsSaid : Prop := treeIdsRow.holds Tryd.pinned (OpenSpec.ofChange treeIdsSpec)

/-- ITS FALSE NEIGHBOUR: 'it returns false'. Refute it at one input. -/
def treeIdsWrong : ChangeSpec := { name := "treeIds", fn := fun _ => fun
  | [d] => { results := [.lit (.bool false)], args := [d] }
  | _ => none }
def TreeIdsWrongFalsely : Prop := treeIdsRow.holds Tryd.pinned (OpenSpec.ofChange treeIdsWrong)

/-- 'almonerlaw13.TreeTimes': WHATEVER THE INPUT: true; the input reads as it did. -/
def treeTimesSpec : ChangeSpec := { name := "treeTimes", fn := fun _ => fun
  | [d] => { results := [.lit (.bool true)], args := [d] }
  | _ => none }
def treeTimesRow : OpenClaim := { program := "ytanfgipanfjcoaadoor", sum := "f304a702833a0bf58d47b136645f363a101cf1e57b724d4447cd665f3063b1b3", func := "almoner/almonerlaw13.TreeTimes", spec := "treeTimes", inPlace := ["math/bits.Add64"], unfollowed := true, recurses := true, named := ["almoner/api.ErrServer", "almoner/api.ErrTight", "almoner/api.ErrFull", "almoner/api.ErrNumber", "almoner/api.ErrTask"], apart := false, laid := [("almoner/api.ErrNumber", laid_almoner_api_ErrNumber), ("almoner/api.ErrFull", laid_almoner_api_ErrFull), ("almoner/api.ErrServer", laid_almoner_api_ErrServer), ("almoner/api.ErrTask", laid_almoner_api_ErrTask), ("almoner/api.ErrTight", laid_almoner_api_ErrTight)] }
def TreeTimesSaid : Prop := treeTimesRow.holds Tryd.pinned (OpenSpec.ofChange treeTimesSpec)

/-- ITS FALSE NEIGHBOUR: 'it returns false'. Refute it at one input. -/
def treeTimesWrong : ChangeSpec := { name := "treeTimes", fn := fun _ => fun
  | [d] => { results := [.lit (.bool false)], args := [d] }
  | _ => none }
def TreeTimesWrongFalsely : Prop := treeTimesRow.holds Tryd.pinned (OpenSpec.ofChange treeTimesWrong)

/- THE SECOND FORM. 'bulk': how many values and letters a reading holds, each counted each time it is reached (what is shared counts as often as it is met; a slice's spare places count too). A statement '..UptoSaid' is the law's where the arguments, and the package variables that the reading takes, are together of bulk at most 1048576: NARROWER than '..Said'. Prove '..Said' where nothing that the law and all that it calls make is longer than what came in: it says more and counts as full. Else prove '..UptoSaid'. A law counts once. -/
mutual
def uptoBulk {H : Type} : DataW H → Nat
  | .lit (.string bytes) => bytes.length + 1
  | .lit _ => 1
  | .nil => 1
  | .ptr d => uptoBulk d + 1
  | .slice elems spare => uptoBulkAll elems + uptoBulkAll spare + 1
  | .agg parts => uptoBulkAll parts + 1
  | .iface _ d => uptoBulk d + 1
  | .map entries => uptoBulkEntries entries + 1
  | .held _ => 1
def uptoBulkAll {H : Type} : List (DataW H) → Nat
  | [] => 0
  | d :: r => uptoBulk d + uptoBulkAll r
def uptoBulkEntries {H : Type} : List (Lit × DataW H) → Nat
  | [] => 0
  | x :: r => uptoBulkEntry x + uptoBulkEntries r
def uptoBulkEntry {H : Type} : Lit × DataW H → Nat
  | (.string bytes, d) => bytes.length + uptoBulk d + 1
  | (_, d) => uptoBulk d + 1
 end
def uptoSmall : (H : Type) → List (DataW H) → Bool := fun _ ds => decide (uptoBulkAll ds ≤ 1048576)
def OpenSpec.upto (s : _root_.Go.ChangeSpec) : _root_.Go.OpenSpec := { _root_.Go.OpenSpec.ofChange s with cond := some uptoSmall }

/-- 'almonerlaw13.TreeRefused', WHERE WHAT IT READS IS OF BULK AT MOST 1048576: true; the input reads as it did. -/
def treeRefusedUptoRow : OpenClaim := { program := "ytanfgipanfjcoaadoor", sum := "f304a702833a0bf58d47b136645f363a101cf1e57b724d4447cd665f3063b1b3", func := "almoner/almonerlaw13.TreeRefused", spec := "treeRefused", inPlace := ["math/bits.Add64"], unfollowed := true, recurses := true, named := ["almoner/api.ErrServer", "almoner/api.ErrTight", "almoner/api.ErrFull", "almoner/api.ErrNumber", "almoner/api.ErrTask"], apart := false, laid := [("almoner/api.ErrNumber", laid_almoner_api_ErrNumber), ("almoner/api.ErrFull", laid_almoner_api_ErrFull), ("almoner/api.ErrServer", laid_almoner_api_ErrServer), ("almoner/api.ErrTask", laid_almoner_api_ErrTask), ("almoner/api.ErrTight", laid_almoner_api_ErrTight)], narrowed := true }
def TreeRefusedUptoSaid : Prop := treeRefusedUptoRow.holds Tryd.pinned (OpenSpec.upto treeRefusedSpec)

/-- 'almonerlaw13.TreeGhosts', WHERE WHAT IT READS IS OF BULK AT MOST 1048576: true; the input reads as it did. -/
def treeGhostsUptoRow : OpenClaim := { program := "ytanfgipanfjcoaadoor", sum := "f304a702833a0bf58d47b136645f363a101cf1e57b724d4447cd665f3063b1b3", func := "almoner/almonerlaw13.TreeGhosts", spec := "treeGhosts", inPlace := ["math/bits.Add64"], unfollowed := true, recurses := true, named := ["almoner/api.ErrServer", "almoner/api.ErrTight", "almoner/api.ErrFull", "almoner/api.ErrNumber", "almoner/api.ErrTask"], apart := false, laid := [("almoner/api.ErrNumber", laid_almoner_api_ErrNumber), ("almoner/api.ErrFull", laid_almoner_api_ErrFull), ("almoner/api.ErrServer", laid_almoner_api_ErrServer), ("almoner/api.ErrTask", laid_almoner_api_ErrTask), ("almoner/api.ErrTight", laid_almoner_api_ErrTight)], narrowed := true }
def TreeGhostsUptoSaid : Prop := treeGhostsUptoRow.holds Tryd.pinned (OpenSpec.upto treeGhostsSpec)

/-- 'almonerlaw13.TreeIds', WHERE WHAT IT READS IS OF BULK AT MOST 1048576: true; the input reads as it did. -/
def treeIdsUptoRow : OpenClaim := { program := "ytanfgipanfjcoaadoor", sum := "f304a702833a0bf58d47b136645f363a101cf1e57b724d4447cd665f3063b1b3", func := "almoner/almonerlaw13.TreeIds", spec := "treeIds", inPlace := ["math/bits.Add64"], unfollowed := true, recurses := true, named := ["almoner/api.ErrServer", "almoner/api.ErrTight", "almoner/api.ErrFull", "almoner/api.ErrNumber", "almoner/api.ErrTask"], apart := false, laid := [("almoner/api.ErrNumber", laid_almoner_api_ErrNumber), ("almoner/api.ErrFull", laid_almoner_api_ErrFull), ("almoner/api.ErrServer", laid_almoner_api_ErrServer), ("almoner/api.ErrTask", laid_almoner_api_ErrTask), ("almoner/api.ErrTight", laid_almoner_api_ErrTight)], narrowed := true }
def TreeIdsUptoSaid : Prop := treeIdsUptoRow.holds Tryd.pinned (OpenSpec.upto treeIdsSpec)

/-- 'almonerlaw13.TreeTimes', WHERE WHAT IT READS IS OF BULK AT MOST 1048576: true; the input reads as it did. -/
def treeTimesUptoRow : OpenClaim := { program := "ytanfgipanfjcoaadoor", sum := "f304a702833a0bf58d47b136645f363a101cf1e57b724d4447cd665f3063b1b3", func := "almoner/almonerlaw13.TreeTimes", spec := "treeTimes", inPlace := ["math/bits.Add64"], unfollowed := true, recurses := true, named := ["almoner/api.ErrServer", "almoner/api.ErrTight", "almoner/api.ErrFull", "almoner/api.ErrNumber", "almoner/api.ErrTask"], apart := false, laid := [("almoner/api.ErrNumber", laid_almoner_api_ErrNumber), ("almoner/api.ErrFull", laid_almoner_api_ErrFull), ("almoner/api.ErrServer", laid_almoner_api_ErrServer), ("almoner/api.ErrTask", laid_almoner_api_ErrTask), ("almoner/api.ErrTight", laid_almoner_api_ErrTight)], narrowed := true }
def TreeTimesUptoSaid : Prop := treeTimesUptoRow.holds Tryd.pinned (OpenSpec.upto treeTimesSpec)

end Rows
end Go.Proofs.YtanfgipanfjcoaaDoor
