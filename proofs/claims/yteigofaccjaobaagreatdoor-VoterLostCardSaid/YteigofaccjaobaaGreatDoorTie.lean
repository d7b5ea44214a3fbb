/-
  DERIVED. GIVEN WITH THE SEED: THE PROGRAM's TIES (one call each: nine closed facts by the kernel) AND EACH ROW's TIE, after the 31st guide's Derived/Test/Toyas{Tie, Card}.lean. No idea stands in it: it is a product of the set-up. Laid BY PROGRAM, IN A SANDBOX (cutbox-door.mjs). By AI agents, Wed Nov 11 2026. No macro, syntax, notation, axiom, sorry.
-/
import Derived.Test.YteigofaccjaobaaGreatDoorRows
import Derived.LaidByTextLater
import Derived.SevenTiedAt
import Derived.LaidSub
import Derived.LaidOnce
namespace Go.Proofs.YteigofaccjaobaaGreatDoor
open Go
set_option maxRecDepth 100000
theorem seatTie1 : Tryz.prog.laidByTextLater [("almoner/api.ErrNumber", Rows.laid_almoner_api_ErrNumber), ("almoner/api.ErrOver", Rows.laid_almoner_api_ErrOver), ("almoner/api.ErrBytes", Rows.laid_almoner_api_ErrBytes), ("almoner/api.ErrSum", Rows.laid_almoner_api_ErrSum), ("almoner/api.ErrGone", Rows.laid_almoner_api_ErrGone), ("almoner/api.ErrThere", Rows.laid_almoner_api_ErrThere), ("almoner/api.ErrFull", Rows.laid_almoner_api_ErrFull), ("almoner/api.ErrLarge", Rows.laid_almoner_api_ErrLarge), ("almoner/api.ErrLost", Rows.laid_almoner_api_ErrLost), ("almoner/api.ErrServer", Rows.laid_almoner_api_ErrServer), ("almoner/api.ErrTask", Rows.laid_almoner_api_ErrTask), ("almoner/api.ErrTight", Rows.laid_almoner_api_ErrTight), ("almoner/api.ErrDeep", Rows.laid_almoner_api_ErrDeep), ("almoner/api.ErrBusy", Rows.laid_almoner_api_ErrBusy), ("almoner/api.ErrBallot", Rows.laid_almoner_api_ErrBallot), ("almoner/api.ErrState", Rows.laid_almoner_api_ErrState)] [.sentinel, .sentinel, .sentinel, .sentinel, .sentinel, .sentinel, .sentinel, .sentinel, .sentinel, .sentinel, .sentinel, .sentinel, .sentinel, .sentinel, .sentinel, .sentinel] true :=
  Program.laidByTextLater_by_one 313 8 2 (by kernel_rfl) (by kernel_rfl) (by kernel_rfl) (by kernel_rfl) (by kernel_rfl) (by kernel_rfl) (fun _ _ => by kernel_rfl)
theorem noOwnUnsafe : Tryz.pinned.checked.prog.headLifts.contains "ownunsafe" = false := by kernel_rfl
theorem tie : Tryz.prog.laidByTextLater [("almoner/api.ErrNumber", Rows.laid_almoner_api_ErrNumber), ("almoner/api.ErrBytes", Rows.laid_almoner_api_ErrBytes), ("almoner/api.ErrSum", Rows.laid_almoner_api_ErrSum), ("almoner/api.ErrGone", Rows.laid_almoner_api_ErrGone), ("almoner/api.ErrFull", Rows.laid_almoner_api_ErrFull), ("almoner/api.ErrLarge", Rows.laid_almoner_api_ErrLarge), ("almoner/api.ErrLost", Rows.laid_almoner_api_ErrLost), ("almoner/api.ErrBallot", Rows.laid_almoner_api_ErrBallot), ("almoner/api.ErrState", Rows.laid_almoner_api_ErrState)] [.sentinel, .sentinel, .sentinel, .sentinel, .sentinel, .sentinel, .sentinel, .sentinel, .sentinel] true :=
  Program.laidByTextLater.sub seatTie1 ["almoner/api.ErrNumber", "almoner/api.ErrBytes", "almoner/api.ErrSum", "almoner/api.ErrGone", "almoner/api.ErrFull", "almoner/api.ErrLarge", "almoner/api.ErrLost", "almoner/api.ErrBallot", "almoner/api.ErrState"] (by kernel_rfl) (by kernel_rfl)
theorem voterNumbers_row_tie : Rows.voterNumbersRow.laidByTextAt .later Tryz.pinned [.sentinel, .sentinel, .sentinel, .sentinel, .sentinel, .sentinel, .sentinel, .sentinel, .sentinel] true :=
  OpenClaim.laidByTextAt_later rfl rfl tie noOwnUnsafe
theorem voterLost_row_tie : Rows.voterLostRow.laidByTextAt .later Tryz.pinned [.sentinel, .sentinel, .sentinel, .sentinel, .sentinel, .sentinel, .sentinel, .sentinel, .sentinel] true :=
  OpenClaim.laidByTextAt_later rfl rfl tie noOwnUnsafe
theorem roundAgrees_row_tie : Rows.roundAgreesRow.laidByTextAt .later Tryz.pinned [.sentinel, .sentinel, .sentinel, .sentinel, .sentinel, .sentinel, .sentinel, .sentinel, .sentinel] true :=
  OpenClaim.laidByTextAt_later rfl rfl tie noOwnUnsafe
theorem tie2 : Tryz.prog.laidByTextLater [("almoner/api.ErrNumber", Rows.laid_almoner_api_ErrNumber), ("almoner/api.ErrOver", Rows.laid_almoner_api_ErrOver), ("almoner/api.ErrBytes", Rows.laid_almoner_api_ErrBytes), ("almoner/api.ErrSum", Rows.laid_almoner_api_ErrSum), ("almoner/api.ErrGone", Rows.laid_almoner_api_ErrGone), ("almoner/api.ErrThere", Rows.laid_almoner_api_ErrThere), ("almoner/api.ErrFull", Rows.laid_almoner_api_ErrFull), ("almoner/api.ErrLarge", Rows.laid_almoner_api_ErrLarge), ("almoner/api.ErrLost", Rows.laid_almoner_api_ErrLost), ("almoner/api.ErrServer", Rows.laid_almoner_api_ErrServer), ("almoner/api.ErrTask", Rows.laid_almoner_api_ErrTask), ("almoner/api.ErrTight", Rows.laid_almoner_api_ErrTight), ("almoner/api.ErrDeep", Rows.laid_almoner_api_ErrDeep), ("almoner/api.ErrBusy", Rows.laid_almoner_api_ErrBusy), ("almoner/api.ErrBallot", Rows.laid_almoner_api_ErrBallot), ("almoner/api.ErrState", Rows.laid_almoner_api_ErrState)] [.sentinel, .sentinel, .sentinel, .sentinel, .sentinel, .sentinel, .sentinel, .sentinel, .sentinel, .sentinel, .sentinel, .sentinel, .sentinel, .sentinel, .sentinel, .sentinel] true :=
  Program.laidByTextLater.sub seatTie1 ["almoner/api.ErrNumber", "almoner/api.ErrOver", "almoner/api.ErrBytes", "almoner/api.ErrSum", "almoner/api.ErrGone", "almoner/api.ErrThere", "almoner/api.ErrFull", "almoner/api.ErrLarge", "almoner/api.ErrLost", "almoner/api.ErrServer", "almoner/api.ErrTask", "almoner/api.ErrTight", "almoner/api.ErrDeep", "almoner/api.ErrBusy", "almoner/api.ErrBallot", "almoner/api.ErrState"] (by kernel_rfl) (by kernel_rfl)
theorem voterPlays_row_tie : Rows.voterPlaysRow.laidByTextAt .later Tryz.pinned [.sentinel, .sentinel, .sentinel, .sentinel, .sentinel, .sentinel, .sentinel, .sentinel, .sentinel, .sentinel, .sentinel, .sentinel, .sentinel, .sentinel, .sentinel, .sentinel] true :=
  OpenClaim.laidByTextAt_later rfl rfl tie2 noOwnUnsafe
theorem voterNumbersUpto_row_tie : Rows.voterNumbersUptoRow.laidByTextAt .later Tryz.pinned [.sentinel, .sentinel, .sentinel, .sentinel, .sentinel, .sentinel, .sentinel, .sentinel, .sentinel] true :=
  OpenClaim.laidByTextAt_later rfl rfl tie noOwnUnsafe
theorem voterLostUpto_row_tie : Rows.voterLostUptoRow.laidByTextAt .later Tryz.pinned [.sentinel, .sentinel, .sentinel, .sentinel, .sentinel, .sentinel, .sentinel, .sentinel, .sentinel] true :=
  OpenClaim.laidByTextAt_later rfl rfl tie noOwnUnsafe
theorem voterPlaysUpto_row_tie : Rows.voterPlaysUptoRow.laidByTextAt .later Tryz.pinned [.sentinel, .sentinel, .sentinel, .sentinel, .sentinel, .sentinel, .sentinel, .sentinel, .sentinel, .sentinel, .sentinel, .sentinel, .sentinel, .sentinel, .sentinel, .sentinel] true :=
  OpenClaim.laidByTextAt_later rfl rfl tie2 noOwnUnsafe
theorem roundAgreesUpto_row_tie : Rows.roundAgreesUptoRow.laidByTextAt .later Tryz.pinned [.sentinel, .sentinel, .sentinel, .sentinel, .sentinel, .sentinel, .sentinel, .sentinel, .sentinel] true :=
  OpenClaim.laidByTextAt_later rfl rfl tie noOwnUnsafe
end Go.Proofs.YteigofaccjaobaaGreatDoor
