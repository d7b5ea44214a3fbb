/-
  DERIVED. GIVEN WITH THE SEED: THE PROGRAM's TIES (one call each: nine closed facts by the kernel) AND EACH ROW's TIE, after the 31st guide's Derived/Test/Toyas{Tie, Card}.lean. No idea stands in it: it is a product of the set-up. Laid BY PROGRAM, IN A SANDBOX (cutbox-door.mjs). By AI agents, Wed Nov 11 2026. No macro, syntax, notation, axiom, sorry.
-/
import Derived.Test.YtkfkfcfbcfcbkaaDoorRows
import Derived.LaidByTextLater
import Derived.SevenTiedAt
import Derived.LaidSub
import Derived.LaidOnce
namespace Go.Proofs.YtkfkfcfbcfcbkaaDoor
open Go
set_option maxRecDepth 100000
theorem seatTie1 : Tryd.prog.laidByTextLater [("almoner/api.ErrNumber", Rows.laid_almoner_api_ErrNumber), ("almoner/api.ErrOver", Rows.laid_almoner_api_ErrOver), ("almoner/api.ErrBytes", Rows.laid_almoner_api_ErrBytes), ("almoner/api.ErrSum", Rows.laid_almoner_api_ErrSum), ("almoner/api.ErrGone", Rows.laid_almoner_api_ErrGone), ("almoner/api.ErrThere", Rows.laid_almoner_api_ErrThere), ("almoner/api.ErrFull", Rows.laid_almoner_api_ErrFull), ("almoner/api.ErrLarge", Rows.laid_almoner_api_ErrLarge), ("almoner/api.ErrLost", Rows.laid_almoner_api_ErrLost), ("almoner/api.ErrServer", Rows.laid_almoner_api_ErrServer), ("almoner/api.ErrTask", Rows.laid_almoner_api_ErrTask), ("almoner/api.ErrTight", Rows.laid_almoner_api_ErrTight), ("almoner/api.ErrDeep", Rows.laid_almoner_api_ErrDeep), ("almoner/api.ErrBusy", Rows.laid_almoner_api_ErrBusy), ("almoner/api.ErrBallot", Rows.laid_almoner_api_ErrBallot), ("almoner/api.ErrState", Rows.laid_almoner_api_ErrState)] [.sentinel, .sentinel, .sentinel, .sentinel, .sentinel, .sentinel, .sentinel, .sentinel, .sentinel, .sentinel, .sentinel, .sentinel, .sentinel, .sentinel, .sentinel, .sentinel] true :=
  Program.laidByTextLater_by_one 313 8 2 (by kernel_rfl) (by kernel_rfl) (by kernel_rfl) (by kernel_rfl) (by kernel_rfl) (by kernel_rfl) (fun _ _ => by kernel_rfl)
theorem noOwnUnsafe : Tryd.pinned.checked.prog.headLifts.contains "ownunsafe" = false := by kernel_rfl
theorem tie : Tryd.prog.laidByTextLater [("almoner/api.ErrFull", Rows.laid_almoner_api_ErrFull), ("almoner/api.ErrServer", Rows.laid_almoner_api_ErrServer)] [.sentinel, .sentinel] true :=
  Program.laidByTextLater.sub seatTie1 ["almoner/api.ErrFull", "almoner/api.ErrServer"] (by kernel_rfl) (by kernel_rfl)
theorem planCounts_row_tie : Rows.planCountsRow.laidByTextAt .later Tryd.pinned [.sentinel, .sentinel] true :=
  OpenClaim.laidByTextAt_later rfl rfl tie noOwnUnsafe
theorem planOrders_row_tie : Rows.planOrdersRow.laidByTextAt .later Tryd.pinned [.sentinel, .sentinel] true :=
  OpenClaim.laidByTextAt_later rfl rfl tie noOwnUnsafe
theorem planParts_row_tie : Rows.planPartsRow.laidByTextAt .later Tryd.pinned [.sentinel, .sentinel] true :=
  OpenClaim.laidByTextAt_later rfl rfl tie noOwnUnsafe
theorem tie2 : Tryd.prog.laidByTextLater [("almoner/api.ErrFull", Rows.laid_almoner_api_ErrFull), ("almoner/api.ErrServer", Rows.laid_almoner_api_ErrServer), ("almoner/api.ErrTask", Rows.laid_almoner_api_ErrTask)] [.sentinel, .sentinel, .sentinel] true :=
  Program.laidByTextLater.sub seatTie1 ["almoner/api.ErrFull", "almoner/api.ErrServer", "almoner/api.ErrTask"] (by kernel_rfl) (by kernel_rfl)
theorem planLegal_row_tie : Rows.planLegalRow.laidByTextAt .later Tryd.pinned [.sentinel, .sentinel, .sentinel] true :=
  OpenClaim.laidByTextAt_later rfl rfl tie2 noOwnUnsafe
theorem tie3 : Tryd.prog.laidByTextLater [("almoner/api.ErrNumber", Rows.laid_almoner_api_ErrNumber), ("almoner/api.ErrFull", Rows.laid_almoner_api_ErrFull), ("almoner/api.ErrServer", Rows.laid_almoner_api_ErrServer)] [.sentinel, .sentinel, .sentinel] true :=
  Program.laidByTextLater.sub seatTie1 ["almoner/api.ErrNumber", "almoner/api.ErrFull", "almoner/api.ErrServer"] (by kernel_rfl) (by kernel_rfl)
theorem demandSplits_row_tie : Rows.demandSplitsRow.laidByTextAt .later Tryd.pinned [.sentinel, .sentinel, .sentinel] true :=
  OpenClaim.laidByTextAt_later rfl rfl tie3 noOwnUnsafe
theorem demandSteps_row_tie : Rows.demandStepsRow.laidByTextAt .later Tryd.pinned [.sentinel, .sentinel, .sentinel] true :=
  OpenClaim.laidByTextAt_later rfl rfl tie3 noOwnUnsafe
theorem tie4 : Tryd.prog.laidByTextLater [("almoner/api.ErrNumber", Rows.laid_almoner_api_ErrNumber), ("almoner/api.ErrOver", Rows.laid_almoner_api_ErrOver), ("almoner/api.ErrBytes", Rows.laid_almoner_api_ErrBytes), ("almoner/api.ErrSum", Rows.laid_almoner_api_ErrSum), ("almoner/api.ErrGone", Rows.laid_almoner_api_ErrGone), ("almoner/api.ErrThere", Rows.laid_almoner_api_ErrThere), ("almoner/api.ErrFull", Rows.laid_almoner_api_ErrFull), ("almoner/api.ErrLarge", Rows.laid_almoner_api_ErrLarge), ("almoner/api.ErrLost", Rows.laid_almoner_api_ErrLost), ("almoner/api.ErrServer", Rows.laid_almoner_api_ErrServer), ("almoner/api.ErrTask", Rows.laid_almoner_api_ErrTask), ("almoner/api.ErrTight", Rows.laid_almoner_api_ErrTight), ("almoner/api.ErrDeep", Rows.laid_almoner_api_ErrDeep), ("almoner/api.ErrBusy", Rows.laid_almoner_api_ErrBusy), ("almoner/api.ErrBallot", Rows.laid_almoner_api_ErrBallot), ("almoner/api.ErrState", Rows.laid_almoner_api_ErrState)] [.sentinel, .sentinel, .sentinel, .sentinel, .sentinel, .sentinel, .sentinel, .sentinel, .sentinel, .sentinel, .sentinel, .sentinel, .sentinel, .sentinel, .sentinel, .sentinel] true :=
  Program.laidByTextLater.sub seatTie1 ["almoner/api.ErrNumber", "almoner/api.ErrOver", "almoner/api.ErrBytes", "almoner/api.ErrSum", "almoner/api.ErrGone", "almoner/api.ErrThere", "almoner/api.ErrFull", "almoner/api.ErrLarge", "almoner/api.ErrLost", "almoner/api.ErrServer", "almoner/api.ErrTask", "almoner/api.ErrTight", "almoner/api.ErrDeep", "almoner/api.ErrBusy", "almoner/api.ErrBallot", "almoner/api.ErrState"] (by kernel_rfl) (by kernel_rfl)
theorem demandServers_row_tie : Rows.demandServersRow.laidByTextAt .later Tryd.pinned [.sentinel, .sentinel, .sentinel, .sentinel, .sentinel, .sentinel, .sentinel, .sentinel, .sentinel, .sentinel, .sentinel, .sentinel, .sentinel, .sentinel, .sentinel, .sentinel] true :=
  OpenClaim.laidByTextAt_later rfl rfl tie4 noOwnUnsafe
theorem demandGrows_row_tie : Rows.demandGrowsRow.laidByTextAt .later Tryd.pinned [.sentinel, .sentinel, .sentinel, .sentinel, .sentinel, .sentinel, .sentinel, .sentinel, .sentinel, .sentinel, .sentinel, .sentinel, .sentinel, .sentinel, .sentinel, .sentinel] true :=
  OpenClaim.laidByTextAt_later rfl rfl tie4 noOwnUnsafe
theorem planShares_row_tie : Rows.planSharesRow.laidByTextAt .later Tryd.pinned [.sentinel, .sentinel, .sentinel, .sentinel, .sentinel, .sentinel, .sentinel, .sentinel, .sentinel, .sentinel, .sentinel, .sentinel, .sentinel, .sentinel, .sentinel, .sentinel] true :=
  OpenClaim.laidByTextAt_later rfl rfl tie4 noOwnUnsafe
theorem demandTasks_row_tie : Rows.demandTasksRow.laidByTextAt .later Tryd.pinned [.sentinel, .sentinel, .sentinel, .sentinel, .sentinel, .sentinel, .sentinel, .sentinel, .sentinel, .sentinel, .sentinel, .sentinel, .sentinel, .sentinel, .sentinel, .sentinel] true :=
  OpenClaim.laidByTextAt_later rfl rfl tie4 noOwnUnsafe
theorem tie5 : Tryd.prog.laidByTextLater [("almoner/api.ErrNumber", Rows.laid_almoner_api_ErrNumber), ("almoner/api.ErrFull", Rows.laid_almoner_api_ErrFull), ("almoner/api.ErrServer", Rows.laid_almoner_api_ErrServer), ("almoner/api.ErrTask", Rows.laid_almoner_api_ErrTask)] [.sentinel, .sentinel, .sentinel, .sentinel] true :=
  Program.laidByTextLater.sub seatTie1 ["almoner/api.ErrNumber", "almoner/api.ErrFull", "almoner/api.ErrServer", "almoner/api.ErrTask"] (by kernel_rfl) (by kernel_rfl)
theorem demandPeriods_row_tie : Rows.demandPeriodsRow.laidByTextAt .later Tryd.pinned [.sentinel, .sentinel, .sentinel, .sentinel] true :=
  OpenClaim.laidByTextAt_later rfl rfl tie5 noOwnUnsafe
theorem planCountsUpto_row_tie : Rows.planCountsUptoRow.laidByTextAt .later Tryd.pinned [.sentinel, .sentinel] true :=
  OpenClaim.laidByTextAt_later rfl rfl tie noOwnUnsafe
theorem planLegalUpto_row_tie : Rows.planLegalUptoRow.laidByTextAt .later Tryd.pinned [.sentinel, .sentinel, .sentinel] true :=
  OpenClaim.laidByTextAt_later rfl rfl tie2 noOwnUnsafe
theorem planOrdersUpto_row_tie : Rows.planOrdersUptoRow.laidByTextAt .later Tryd.pinned [.sentinel, .sentinel] true :=
  OpenClaim.laidByTextAt_later rfl rfl tie noOwnUnsafe
theorem demandSplitsUpto_row_tie : Rows.demandSplitsUptoRow.laidByTextAt .later Tryd.pinned [.sentinel, .sentinel, .sentinel] true :=
  OpenClaim.laidByTextAt_later rfl rfl tie3 noOwnUnsafe
theorem demandServersUpto_row_tie : Rows.demandServersUptoRow.laidByTextAt .later Tryd.pinned [.sentinel, .sentinel, .sentinel, .sentinel, .sentinel, .sentinel, .sentinel, .sentinel, .sentinel, .sentinel, .sentinel, .sentinel, .sentinel, .sentinel, .sentinel, .sentinel] true :=
  OpenClaim.laidByTextAt_later rfl rfl tie4 noOwnUnsafe
theorem demandGrowsUpto_row_tie : Rows.demandGrowsUptoRow.laidByTextAt .later Tryd.pinned [.sentinel, .sentinel, .sentinel, .sentinel, .sentinel, .sentinel, .sentinel, .sentinel, .sentinel, .sentinel, .sentinel, .sentinel, .sentinel, .sentinel, .sentinel, .sentinel] true :=
  OpenClaim.laidByTextAt_later rfl rfl tie4 noOwnUnsafe
theorem demandStepsUpto_row_tie : Rows.demandStepsUptoRow.laidByTextAt .later Tryd.pinned [.sentinel, .sentinel, .sentinel] true :=
  OpenClaim.laidByTextAt_later rfl rfl tie3 noOwnUnsafe
theorem planPartsUpto_row_tie : Rows.planPartsUptoRow.laidByTextAt .later Tryd.pinned [.sentinel, .sentinel] true :=
  OpenClaim.laidByTextAt_later rfl rfl tie noOwnUnsafe
theorem planSharesUpto_row_tie : Rows.planSharesUptoRow.laidByTextAt .later Tryd.pinned [.sentinel, .sentinel, .sentinel, .sentinel, .sentinel, .sentinel, .sentinel, .sentinel, .sentinel, .sentinel, .sentinel, .sentinel, .sentinel, .sentinel, .sentinel, .sentinel] true :=
  OpenClaim.laidByTextAt_later rfl rfl tie4 noOwnUnsafe
theorem demandPeriodsUpto_row_tie : Rows.demandPeriodsUptoRow.laidByTextAt .later Tryd.pinned [.sentinel, .sentinel, .sentinel, .sentinel] true :=
  OpenClaim.laidByTextAt_later rfl rfl tie5 noOwnUnsafe
theorem demandTasksUpto_row_tie : Rows.demandTasksUptoRow.laidByTextAt .later Tryd.pinned [.sentinel, .sentinel, .sentinel, .sentinel, .sentinel, .sentinel, .sentinel, .sentinel, .sentinel, .sentinel, .sentinel, .sentinel, .sentinel, .sentinel, .sentinel, .sentinel] true :=
  OpenClaim.laidByTextAt_later rfl rfl tie4 noOwnUnsafe
end Go.Proofs.YtkfkfcfbcfcbkaaDoor
