/-
  DERIVED. GIVEN WITH THE SEED: THE PROGRAM's TIES (one call each: nine closed facts by the kernel) AND EACH ROW's TIE, after the 31st guide's Derived/Test/Toyas{Tie, Card}.lean. No idea stands in it: it is a product of the set-up. Laid BY PROGRAM, IN A SANDBOX (cutbox-door.mjs). By AI agents, Wed Nov 11 2026. No macro, syntax, notation, axiom, sorry.
-/
import Derived.Test.YtkojpimkngmckaaDoorRows
import Derived.LaidByTextLater
import Derived.SevenTiedAt
import Derived.LaidSub
import Derived.LaidOnce
namespace Go.Proofs.YtkojpimkngmckaaDoor
open Go
set_option maxRecDepth 100000
theorem seatTie1 : Tryd.prog.laidByTextLater [("sextet/api.ErrEnd", Rows.laid_sextet_api_ErrEnd), ("sextet/api.ErrSum", Rows.laid_sextet_api_ErrSum), ("sextet/api.ErrShape", Rows.laid_sextet_api_ErrShape), ("sextet/api.ErrMany", Rows.laid_sextet_api_ErrMany), ("sextet/api.ErrRange", Rows.laid_sextet_api_ErrRange), ("sextet/api.ErrKind", Rows.laid_sextet_api_ErrKind), ("sextet/api.ErrNone", Rows.laid_sextet_api_ErrNone), ("sextet/api.ErrThere", Rows.laid_sextet_api_ErrThere), ("sextet/api.ErrFull", Rows.laid_sextet_api_ErrFull), ("sextet/api.ErrCrash", Rows.laid_sextet_api_ErrCrash), ("sextet/api.ErrState", Rows.laid_sextet_api_ErrState), ("sextet/api.ErrConflict", Rows.laid_sextet_api_ErrConflict), ("sextet/api.ErrWaits", Rows.laid_sextet_api_ErrWaits), ("sextet/api.ErrLimit", Rows.laid_sextet_api_ErrLimit), ("sextet/api.ErrFenced", Rows.laid_sextet_api_ErrFenced), ("sextet/api.ErrWord", Rows.laid_sextet_api_ErrWord), ("sextet/api.ErrNumber", Rows.laid_sextet_api_ErrNumber)] [.sentinel, .sentinel, .sentinel, .sentinel, .sentinel, .sentinel, .sentinel, .sentinel, .sentinel, .sentinel, .sentinel, .sentinel, .sentinel, .sentinel, .sentinel, .sentinel, .sentinel] true :=
  Program.laidByTextLater_by_one 332 8 2 (by kernel_rfl) (by kernel_rfl) (by kernel_rfl) (by kernel_rfl) (by kernel_rfl) (by kernel_rfl) (fun _ _ => by kernel_rfl)
theorem noOwnUnsafe : Tryd.pinned.checked.prog.headLifts.contains "ownunsafe" = false := by kernel_rfl
theorem tie : Tryd.prog.laidByTextLater [("sextet/api.ErrShape", Rows.laid_sextet_api_ErrShape), ("sextet/api.ErrMany", Rows.laid_sextet_api_ErrMany), ("sextet/api.ErrRange", Rows.laid_sextet_api_ErrRange), ("sextet/api.ErrNone", Rows.laid_sextet_api_ErrNone), ("sextet/api.ErrThere", Rows.laid_sextet_api_ErrThere), ("sextet/api.ErrState", Rows.laid_sextet_api_ErrState)] [.sentinel, .sentinel, .sentinel, .sentinel, .sentinel, .sentinel] true :=
  Program.laidByTextLater.sub seatTie1 ["sextet/api.ErrShape", "sextet/api.ErrMany", "sextet/api.ErrRange", "sextet/api.ErrNone", "sextet/api.ErrThere", "sextet/api.ErrState"] (by kernel_rfl) (by kernel_rfl)
theorem confCounts_row_tie : Rows.confCountsRow.laidByTextAt .later Tryd.pinned [.sentinel, .sentinel, .sentinel, .sentinel, .sentinel, .sentinel] true :=
  OpenClaim.laidByTextAt_later rfl rfl tie noOwnUnsafe
theorem confSteps_row_tie : Rows.confStepsRow.laidByTextAt .later Tryd.pinned [.sentinel, .sentinel, .sentinel, .sentinel, .sentinel, .sentinel] true :=
  OpenClaim.laidByTextAt_later rfl rfl tie noOwnUnsafe
theorem trackSafe_row_tie : Rows.trackSafeRow.laidByTextAt .later Tryd.pinned [.sentinel, .sentinel, .sentinel, .sentinel, .sentinel, .sentinel] true :=
  OpenClaim.laidByTextAt_later rfl rfl tie noOwnUnsafe
theorem trackMembers_row_tie : Rows.trackMembersRow.laidByTextAt .later Tryd.pinned [.sentinel, .sentinel, .sentinel, .sentinel, .sentinel, .sentinel] true :=
  OpenClaim.laidByTextAt_later rfl rfl tie noOwnUnsafe
theorem confMeets_row_tie : Rows.confMeetsRow.laidByTextAt .later Tryd.pinned [.sentinel, .sentinel, .sentinel, .sentinel, .sentinel, .sentinel] true :=
  OpenClaim.laidByTextAt_later rfl rfl tie noOwnUnsafe
theorem tie2 : Tryd.prog.laidByTextLater [("sextet/api.ErrShape", Rows.laid_sextet_api_ErrShape), ("sextet/api.ErrMany", Rows.laid_sextet_api_ErrMany), ("sextet/api.ErrRange", Rows.laid_sextet_api_ErrRange)] [.sentinel, .sentinel, .sentinel] true :=
  Program.laidByTextLater.sub seatTie1 ["sextet/api.ErrShape", "sextet/api.ErrMany", "sextet/api.ErrRange"] (by kernel_rfl) (by kernel_rfl)
theorem trackGrows_row_tie : Rows.trackGrowsRow.laidByTextAt .later Tryd.pinned [.sentinel, .sentinel, .sentinel] true :=
  OpenClaim.laidByTextAt_later rfl rfl tie2 noOwnUnsafe
theorem trackDrops_row_tie : Rows.trackDropsRow.laidByTextAt .later Tryd.pinned [.sentinel, .sentinel, .sentinel] true :=
  OpenClaim.laidByTextAt_later rfl rfl tie2 noOwnUnsafe
theorem trackBorn_row_tie : Rows.trackBornRow.laidByTextAt .later Tryd.pinned [.sentinel, .sentinel, .sentinel] true :=
  OpenClaim.laidByTextAt_later rfl rfl tie2 noOwnUnsafe
theorem tie3 : Tryd.prog.laidByTextLater [("sextet/api.ErrEnd", Rows.laid_sextet_api_ErrEnd), ("sextet/api.ErrSum", Rows.laid_sextet_api_ErrSum), ("sextet/api.ErrShape", Rows.laid_sextet_api_ErrShape), ("sextet/api.ErrMany", Rows.laid_sextet_api_ErrMany), ("sextet/api.ErrRange", Rows.laid_sextet_api_ErrRange), ("sextet/api.ErrKind", Rows.laid_sextet_api_ErrKind), ("sextet/api.ErrNone", Rows.laid_sextet_api_ErrNone), ("sextet/api.ErrThere", Rows.laid_sextet_api_ErrThere), ("sextet/api.ErrFull", Rows.laid_sextet_api_ErrFull), ("sextet/api.ErrCrash", Rows.laid_sextet_api_ErrCrash), ("sextet/api.ErrState", Rows.laid_sextet_api_ErrState), ("sextet/api.ErrConflict", Rows.laid_sextet_api_ErrConflict), ("sextet/api.ErrWaits", Rows.laid_sextet_api_ErrWaits), ("sextet/api.ErrLimit", Rows.laid_sextet_api_ErrLimit), ("sextet/api.ErrFenced", Rows.laid_sextet_api_ErrFenced), ("sextet/api.ErrWord", Rows.laid_sextet_api_ErrWord), ("sextet/api.ErrNumber", Rows.laid_sextet_api_ErrNumber)] [.sentinel, .sentinel, .sentinel, .sentinel, .sentinel, .sentinel, .sentinel, .sentinel, .sentinel, .sentinel, .sentinel, .sentinel, .sentinel, .sentinel, .sentinel, .sentinel, .sentinel] true :=
  Program.laidByTextLater.sub seatTie1 ["sextet/api.ErrEnd", "sextet/api.ErrSum", "sextet/api.ErrShape", "sextet/api.ErrMany", "sextet/api.ErrRange", "sextet/api.ErrKind", "sextet/api.ErrNone", "sextet/api.ErrThere", "sextet/api.ErrFull", "sextet/api.ErrCrash", "sextet/api.ErrState", "sextet/api.ErrConflict", "sextet/api.ErrWaits", "sextet/api.ErrLimit", "sextet/api.ErrFenced", "sextet/api.ErrWord", "sextet/api.ErrNumber"] (by kernel_rfl) (by kernel_rfl)
theorem trackPlays_row_tie : Rows.trackPlaysRow.laidByTextAt .later Tryd.pinned [.sentinel, .sentinel, .sentinel, .sentinel, .sentinel, .sentinel, .sentinel, .sentinel, .sentinel, .sentinel, .sentinel, .sentinel, .sentinel, .sentinel, .sentinel, .sentinel, .sentinel] true :=
  OpenClaim.laidByTextAt_later rfl rfl tie3 noOwnUnsafe
theorem registryIncs_row_tie : Rows.registryIncsRow.laidByTextAt .later Tryd.pinned [.sentinel, .sentinel, .sentinel, .sentinel, .sentinel, .sentinel, .sentinel, .sentinel, .sentinel, .sentinel, .sentinel, .sentinel, .sentinel, .sentinel, .sentinel, .sentinel, .sentinel] true :=
  OpenClaim.laidByTextAt_later rfl rfl tie3 noOwnUnsafe
theorem registryFences_row_tie : Rows.registryFencesRow.laidByTextAt .later Tryd.pinned [.sentinel, .sentinel, .sentinel, .sentinel, .sentinel, .sentinel, .sentinel, .sentinel, .sentinel, .sentinel, .sentinel, .sentinel, .sentinel, .sentinel, .sentinel, .sentinel, .sentinel] true :=
  OpenClaim.laidByTextAt_later rfl rfl tie3 noOwnUnsafe
theorem registryPlays_row_tie : Rows.registryPlaysRow.laidByTextAt .later Tryd.pinned [.sentinel, .sentinel, .sentinel, .sentinel, .sentinel, .sentinel, .sentinel, .sentinel, .sentinel, .sentinel, .sentinel, .sentinel, .sentinel, .sentinel, .sentinel, .sentinel, .sentinel] true :=
  OpenClaim.laidByTextAt_later rfl rfl tie3 noOwnUnsafe
theorem confCountsUpto_row_tie : Rows.confCountsUptoRow.laidByTextAt .later Tryd.pinned [.sentinel, .sentinel, .sentinel, .sentinel, .sentinel, .sentinel] true :=
  OpenClaim.laidByTextAt_later rfl rfl tie noOwnUnsafe
theorem trackGrowsUpto_row_tie : Rows.trackGrowsUptoRow.laidByTextAt .later Tryd.pinned [.sentinel, .sentinel, .sentinel] true :=
  OpenClaim.laidByTextAt_later rfl rfl tie2 noOwnUnsafe
theorem trackDropsUpto_row_tie : Rows.trackDropsUptoRow.laidByTextAt .later Tryd.pinned [.sentinel, .sentinel, .sentinel] true :=
  OpenClaim.laidByTextAt_later rfl rfl tie2 noOwnUnsafe
theorem trackBornUpto_row_tie : Rows.trackBornUptoRow.laidByTextAt .later Tryd.pinned [.sentinel, .sentinel, .sentinel] true :=
  OpenClaim.laidByTextAt_later rfl rfl tie2 noOwnUnsafe
theorem trackPlaysUpto_row_tie : Rows.trackPlaysUptoRow.laidByTextAt .later Tryd.pinned [.sentinel, .sentinel, .sentinel, .sentinel, .sentinel, .sentinel, .sentinel, .sentinel, .sentinel, .sentinel, .sentinel, .sentinel, .sentinel, .sentinel, .sentinel, .sentinel, .sentinel] true :=
  OpenClaim.laidByTextAt_later rfl rfl tie3 noOwnUnsafe
theorem confStepsUpto_row_tie : Rows.confStepsUptoRow.laidByTextAt .later Tryd.pinned [.sentinel, .sentinel, .sentinel, .sentinel, .sentinel, .sentinel] true :=
  OpenClaim.laidByTextAt_later rfl rfl tie noOwnUnsafe
theorem trackSafeUpto_row_tie : Rows.trackSafeUptoRow.laidByTextAt .later Tryd.pinned [.sentinel, .sentinel, .sentinel, .sentinel, .sentinel, .sentinel] true :=
  OpenClaim.laidByTextAt_later rfl rfl tie noOwnUnsafe
theorem registryIncsUpto_row_tie : Rows.registryIncsUptoRow.laidByTextAt .later Tryd.pinned [.sentinel, .sentinel, .sentinel, .sentinel, .sentinel, .sentinel, .sentinel, .sentinel, .sentinel, .sentinel, .sentinel, .sentinel, .sentinel, .sentinel, .sentinel, .sentinel, .sentinel] true :=
  OpenClaim.laidByTextAt_later rfl rfl tie3 noOwnUnsafe
theorem trackMembersUpto_row_tie : Rows.trackMembersUptoRow.laidByTextAt .later Tryd.pinned [.sentinel, .sentinel, .sentinel, .sentinel, .sentinel, .sentinel] true :=
  OpenClaim.laidByTextAt_later rfl rfl tie noOwnUnsafe
theorem confMeetsUpto_row_tie : Rows.confMeetsUptoRow.laidByTextAt .later Tryd.pinned [.sentinel, .sentinel, .sentinel, .sentinel, .sentinel, .sentinel] true :=
  OpenClaim.laidByTextAt_later rfl rfl tie noOwnUnsafe
theorem registryFencesUpto_row_tie : Rows.registryFencesUptoRow.laidByTextAt .later Tryd.pinned [.sentinel, .sentinel, .sentinel, .sentinel, .sentinel, .sentinel, .sentinel, .sentinel, .sentinel, .sentinel, .sentinel, .sentinel, .sentinel, .sentinel, .sentinel, .sentinel, .sentinel] true :=
  OpenClaim.laidByTextAt_later rfl rfl tie3 noOwnUnsafe
theorem registryPlaysUpto_row_tie : Rows.registryPlaysUptoRow.laidByTextAt .later Tryd.pinned [.sentinel, .sentinel, .sentinel, .sentinel, .sentinel, .sentinel, .sentinel, .sentinel, .sentinel, .sentinel, .sentinel, .sentinel, .sentinel, .sentinel, .sentinel, .sentinel, .sentinel] true :=
  OpenClaim.laidByTextAt_later rfl rfl tie3 noOwnUnsafe
end Go.Proofs.YtkojpimkngmckaaDoor
