/-
  DERIVED. GIVEN WITH THE SEED: THE PROGRAM's TIES (one call each: nine closed facts by the kernel) AND EACH ROW's TIE, after the 31st guide's Derived/Test/Toyas{Tie, Card}.lean. No idea stands in it: it is a product of the set-up. Laid BY PROGRAM, IN A SANDBOX (cutbox-door.mjs). By AI agents, Wed Nov 11 2026. No macro, syntax, notation, axiom, sorry.
-/
import Derived.Test.YthkpajefghmnaaaDoorRows
import Derived.LaidByTextLater
import Derived.SevenTiedAt
import Derived.LaidSub
import Derived.LaidOnce
namespace Go.Proofs.YthkpajefghmnaaaDoor
open Go
set_option maxRecDepth 100000
theorem seatTie1 : Tryd.prog.laidByTextLater [("sextet/api.ErrEnd", Rows.laid_sextet_api_ErrEnd), ("sextet/api.ErrSum", Rows.laid_sextet_api_ErrSum), ("sextet/api.ErrShape", Rows.laid_sextet_api_ErrShape), ("sextet/api.ErrMany", Rows.laid_sextet_api_ErrMany), ("sextet/api.ErrRange", Rows.laid_sextet_api_ErrRange), ("sextet/api.ErrKind", Rows.laid_sextet_api_ErrKind), ("sextet/api.ErrNone", Rows.laid_sextet_api_ErrNone), ("sextet/api.ErrThere", Rows.laid_sextet_api_ErrThere), ("sextet/api.ErrFull", Rows.laid_sextet_api_ErrFull), ("sextet/api.ErrCrash", Rows.laid_sextet_api_ErrCrash), ("sextet/api.ErrState", Rows.laid_sextet_api_ErrState), ("sextet/api.ErrConflict", Rows.laid_sextet_api_ErrConflict), ("sextet/api.ErrWaits", Rows.laid_sextet_api_ErrWaits), ("sextet/api.ErrLimit", Rows.laid_sextet_api_ErrLimit), ("sextet/api.ErrFenced", Rows.laid_sextet_api_ErrFenced), ("sextet/api.ErrWord", Rows.laid_sextet_api_ErrWord), ("sextet/api.ErrNumber", Rows.laid_sextet_api_ErrNumber)] [.sentinel, .sentinel, .sentinel, .sentinel, .sentinel, .sentinel, .sentinel, .sentinel, .sentinel, .sentinel, .sentinel, .sentinel, .sentinel, .sentinel, .sentinel, .sentinel, .sentinel] true :=
  Program.laidByTextLater_by_one 332 8 2 (by kernel_rfl) (by kernel_rfl) (by kernel_rfl) (by kernel_rfl) (by kernel_rfl) (by kernel_rfl) (fun _ _ => by kernel_rfl)
theorem noOwnUnsafe : Tryd.pinned.checked.prog.headLifts.contains "ownunsafe" = false := by kernel_rfl
theorem tie : Tryd.prog.laidByTextLater [("sextet/api.ErrEnd", Rows.laid_sextet_api_ErrEnd), ("sextet/api.ErrSum", Rows.laid_sextet_api_ErrSum), ("sextet/api.ErrShape", Rows.laid_sextet_api_ErrShape), ("sextet/api.ErrMany", Rows.laid_sextet_api_ErrMany), ("sextet/api.ErrRange", Rows.laid_sextet_api_ErrRange), ("sextet/api.ErrKind", Rows.laid_sextet_api_ErrKind), ("sextet/api.ErrNone", Rows.laid_sextet_api_ErrNone), ("sextet/api.ErrThere", Rows.laid_sextet_api_ErrThere), ("sextet/api.ErrFull", Rows.laid_sextet_api_ErrFull), ("sextet/api.ErrCrash", Rows.laid_sextet_api_ErrCrash), ("sextet/api.ErrState", Rows.laid_sextet_api_ErrState), ("sextet/api.ErrConflict", Rows.laid_sextet_api_ErrConflict), ("sextet/api.ErrWaits", Rows.laid_sextet_api_ErrWaits), ("sextet/api.ErrLimit", Rows.laid_sextet_api_ErrLimit), ("sextet/api.ErrFenced", Rows.laid_sextet_api_ErrFenced), ("sextet/api.ErrWord", Rows.laid_sextet_api_ErrWord), ("sextet/api.ErrNumber", Rows.laid_sextet_api_ErrNumber)] [.sentinel, .sentinel, .sentinel, .sentinel, .sentinel, .sentinel, .sentinel, .sentinel, .sentinel, .sentinel, .sentinel, .sentinel, .sentinel, .sentinel, .sentinel, .sentinel, .sentinel] true :=
  Program.laidByTextLater.sub seatTie1 ["sextet/api.ErrEnd", "sextet/api.ErrSum", "sextet/api.ErrShape", "sextet/api.ErrMany", "sextet/api.ErrRange", "sextet/api.ErrKind", "sextet/api.ErrNone", "sextet/api.ErrThere", "sextet/api.ErrFull", "sextet/api.ErrCrash", "sextet/api.ErrState", "sextet/api.ErrConflict", "sextet/api.ErrWaits", "sextet/api.ErrLimit", "sextet/api.ErrFenced", "sextet/api.ErrWord", "sextet/api.ErrNumber"] (by kernel_rfl) (by kernel_rfl)
theorem spanMany_row_tie : Rows.spanManyRow.laidByTextAt .later Tryd.pinned [.sentinel, .sentinel, .sentinel, .sentinel, .sentinel, .sentinel, .sentinel, .sentinel, .sentinel, .sentinel, .sentinel, .sentinel, .sentinel, .sentinel, .sentinel, .sentinel, .sentinel] true :=
  OpenClaim.laidByTextAt_later rfl rfl tie noOwnUnsafe
theorem wireForms_row_tie : Rows.wireFormsRow.laidByTextAt .later Tryd.pinned [.sentinel, .sentinel, .sentinel, .sentinel, .sentinel, .sentinel, .sentinel, .sentinel, .sentinel, .sentinel, .sentinel, .sentinel, .sentinel, .sentinel, .sentinel, .sentinel, .sentinel] true :=
  OpenClaim.laidByTextAt_later rfl rfl tie noOwnUnsafe
theorem spanAdds_row_tie : Rows.spanAddsRow.laidByTextAt .later Tryd.pinned [.sentinel, .sentinel, .sentinel, .sentinel, .sentinel, .sentinel, .sentinel, .sentinel, .sentinel, .sentinel, .sentinel, .sentinel, .sentinel, .sentinel, .sentinel, .sentinel, .sentinel] true :=
  OpenClaim.laidByTextAt_later rfl rfl tie noOwnUnsafe
theorem wireRanges_row_tie : Rows.wireRangesRow.laidByTextAt .later Tryd.pinned [.sentinel, .sentinel, .sentinel, .sentinel, .sentinel, .sentinel, .sentinel, .sentinel, .sentinel, .sentinel, .sentinel, .sentinel, .sentinel, .sentinel, .sentinel, .sentinel, .sentinel] true :=
  OpenClaim.laidByTextAt_later rfl rfl tie noOwnUnsafe
theorem wireRows_row_tie : Rows.wireRowsRow.laidByTextAt .later Tryd.pinned [.sentinel, .sentinel, .sentinel, .sentinel, .sentinel, .sentinel, .sentinel, .sentinel, .sentinel, .sentinel, .sentinel, .sentinel, .sentinel, .sentinel, .sentinel, .sentinel, .sentinel] true :=
  OpenClaim.laidByTextAt_later rfl rfl tie noOwnUnsafe
theorem wireLengths_row_tie : Rows.wireLengthsRow.laidByTextAt .later Tryd.pinned [.sentinel, .sentinel, .sentinel, .sentinel, .sentinel, .sentinel, .sentinel, .sentinel, .sentinel, .sentinel, .sentinel, .sentinel, .sentinel, .sentinel, .sentinel, .sentinel, .sentinel] true :=
  OpenClaim.laidByTextAt_later rfl rfl tie noOwnUnsafe
theorem tie2 : Tryd.prog.laidByTextLater [("sextet/api.ErrShape", Rows.laid_sextet_api_ErrShape), ("sextet/api.ErrMany", Rows.laid_sextet_api_ErrMany), ("sextet/api.ErrRange", Rows.laid_sextet_api_ErrRange)] [.sentinel, .sentinel, .sentinel] true :=
  Program.laidByTextLater.sub seatTie1 ["sextet/api.ErrShape", "sextet/api.ErrMany", "sextet/api.ErrRange"] (by kernel_rfl) (by kernel_rfl)
theorem spanDeads_row_tie : Rows.spanDeadsRow.laidByTextAt .later Tryd.pinned [.sentinel, .sentinel, .sentinel] true :=
  OpenClaim.laidByTextAt_later rfl rfl tie2 noOwnUnsafe
theorem spanSteps_row_tie : Rows.spanStepsRow.laidByTextAt .later Tryd.pinned [.sentinel, .sentinel, .sentinel] true :=
  OpenClaim.laidByTextAt_later rfl rfl tie2 noOwnUnsafe
theorem tie3 : Tryd.prog.laidByTextLater [("sextet/api.ErrEnd", Rows.laid_sextet_api_ErrEnd), ("sextet/api.ErrShape", Rows.laid_sextet_api_ErrShape), ("sextet/api.ErrRange", Rows.laid_sextet_api_ErrRange)] [.sentinel, .sentinel, .sentinel] true :=
  Program.laidByTextLater.sub seatTie1 ["sextet/api.ErrEnd", "sextet/api.ErrShape", "sextet/api.ErrRange"] (by kernel_rfl) (by kernel_rfl)
theorem wirePuts_row_tie : Rows.wirePutsRow.laidByTextAt .later Tryd.pinned [.sentinel, .sentinel, .sentinel] true :=
  OpenClaim.laidByTextAt_later rfl rfl tie3 noOwnUnsafe
theorem tie4 : Tryd.prog.laidByTextLater [("sextet/api.ErrEnd", Rows.laid_sextet_api_ErrEnd), ("sextet/api.ErrShape", Rows.laid_sextet_api_ErrShape), ("sextet/api.ErrMany", Rows.laid_sextet_api_ErrMany), ("sextet/api.ErrRange", Rows.laid_sextet_api_ErrRange)] [.sentinel, .sentinel, .sentinel, .sentinel] true :=
  Program.laidByTextLater.sub seatTie1 ["sextet/api.ErrEnd", "sextet/api.ErrShape", "sextet/api.ErrMany", "sextet/api.ErrRange"] (by kernel_rfl) (by kernel_rfl)
theorem spanBack_row_tie : Rows.spanBackRow.laidByTextAt .later Tryd.pinned [.sentinel, .sentinel, .sentinel, .sentinel] true :=
  OpenClaim.laidByTextAt_later rfl rfl tie4 noOwnUnsafe
theorem spanManyUpto_row_tie : Rows.spanManyUptoRow.laidByTextAt .later Tryd.pinned [.sentinel, .sentinel, .sentinel, .sentinel, .sentinel, .sentinel, .sentinel, .sentinel, .sentinel, .sentinel, .sentinel, .sentinel, .sentinel, .sentinel, .sentinel, .sentinel, .sentinel] true :=
  OpenClaim.laidByTextAt_later rfl rfl tie noOwnUnsafe
theorem wireFormsUpto_row_tie : Rows.wireFormsUptoRow.laidByTextAt .later Tryd.pinned [.sentinel, .sentinel, .sentinel, .sentinel, .sentinel, .sentinel, .sentinel, .sentinel, .sentinel, .sentinel, .sentinel, .sentinel, .sentinel, .sentinel, .sentinel, .sentinel, .sentinel] true :=
  OpenClaim.laidByTextAt_later rfl rfl tie noOwnUnsafe
theorem spanDeadsUpto_row_tie : Rows.spanDeadsUptoRow.laidByTextAt .later Tryd.pinned [.sentinel, .sentinel, .sentinel] true :=
  OpenClaim.laidByTextAt_later rfl rfl tie2 noOwnUnsafe
theorem spanAddsUpto_row_tie : Rows.spanAddsUptoRow.laidByTextAt .later Tryd.pinned [.sentinel, .sentinel, .sentinel, .sentinel, .sentinel, .sentinel, .sentinel, .sentinel, .sentinel, .sentinel, .sentinel, .sentinel, .sentinel, .sentinel, .sentinel, .sentinel, .sentinel] true :=
  OpenClaim.laidByTextAt_later rfl rfl tie noOwnUnsafe
theorem spanStepsUpto_row_tie : Rows.spanStepsUptoRow.laidByTextAt .later Tryd.pinned [.sentinel, .sentinel, .sentinel] true :=
  OpenClaim.laidByTextAt_later rfl rfl tie2 noOwnUnsafe
theorem wirePutsUpto_row_tie : Rows.wirePutsUptoRow.laidByTextAt .later Tryd.pinned [.sentinel, .sentinel, .sentinel] true :=
  OpenClaim.laidByTextAt_later rfl rfl tie3 noOwnUnsafe
theorem wireRangesUpto_row_tie : Rows.wireRangesUptoRow.laidByTextAt .later Tryd.pinned [.sentinel, .sentinel, .sentinel, .sentinel, .sentinel, .sentinel, .sentinel, .sentinel, .sentinel, .sentinel, .sentinel, .sentinel, .sentinel, .sentinel, .sentinel, .sentinel, .sentinel] true :=
  OpenClaim.laidByTextAt_later rfl rfl tie noOwnUnsafe
theorem wireRowsUpto_row_tie : Rows.wireRowsUptoRow.laidByTextAt .later Tryd.pinned [.sentinel, .sentinel, .sentinel, .sentinel, .sentinel, .sentinel, .sentinel, .sentinel, .sentinel, .sentinel, .sentinel, .sentinel, .sentinel, .sentinel, .sentinel, .sentinel, .sentinel] true :=
  OpenClaim.laidByTextAt_later rfl rfl tie noOwnUnsafe
theorem wireLengthsUpto_row_tie : Rows.wireLengthsUptoRow.laidByTextAt .later Tryd.pinned [.sentinel, .sentinel, .sentinel, .sentinel, .sentinel, .sentinel, .sentinel, .sentinel, .sentinel, .sentinel, .sentinel, .sentinel, .sentinel, .sentinel, .sentinel, .sentinel, .sentinel] true :=
  OpenClaim.laidByTextAt_later rfl rfl tie noOwnUnsafe
theorem spanBackUpto_row_tie : Rows.spanBackUptoRow.laidByTextAt .later Tryd.pinned [.sentinel, .sentinel, .sentinel, .sentinel] true :=
  OpenClaim.laidByTextAt_later rfl rfl tie4 noOwnUnsafe
end Go.Proofs.YthkpajefghmnaaaDoor
