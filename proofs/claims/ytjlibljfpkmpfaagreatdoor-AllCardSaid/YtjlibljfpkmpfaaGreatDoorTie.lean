/-
  DERIVED. GIVEN WITH THE SEED: THE PROGRAM's TIES (one call each: nine closed facts by the kernel) AND EACH ROW's TIE, after the 31st guide's Derived/Test/Toyas{Tie, Card}.lean. No idea stands in it: it is a product of the set-up. Laid BY PROGRAM, IN A SANDBOX (cutbox-door.mjs). By AI agents, Wed Nov 11 2026. No macro, syntax, notation, axiom, sorry.
-/
import Derived.Test.YtjlibljfpkmpfaaGreatDoorRows
import Derived.LaidByTextLater
import Derived.SevenTiedAt
import Derived.LaidSub
import Derived.LaidOnce
namespace Go.Proofs.YtjlibljfpkmpfaaGreatDoor
open Go
set_option maxRecDepth 100000
theorem seatTie1 : Tryz.prog.laidByTextLater [("errors.errorType", Rows.laid_errors_errorType), ("enclose/enclose.ErrFloat", Rows.laid_enclose_enclose_ErrFloat), ("enclose/enclose.ErrOrder", Rows.laid_enclose_enclose_ErrOrder), ("enclose/enclose.ErrRange", Rows.laid_enclose_enclose_ErrRange), ("enclose/enclose.ErrZero", Rows.laid_enclose_enclose_ErrZero), ("enclose/enclose.ErrNegative", Rows.laid_enclose_enclose_ErrNegative), ("enclose/enclose.ErrEmpty", Rows.laid_enclose_enclose_ErrEmpty), ("enclose/enclose.ErrName", Rows.laid_enclose_enclose_ErrName), ("enclose/enclose.ErrShape", Rows.laid_enclose_enclose_ErrShape), ("enclose/enclose.ErrSure", Rows.laid_enclose_enclose_ErrSure), ("enclose/enclose.table", Rows.laid_enclose_enclose_table)] [.handle, .sentinel, .sentinel, .sentinel, .sentinel, .sentinel, .sentinel, .sentinel, .sentinel, .sentinel, .funcs] true :=
  Program.laidByTextLater_by_one 198 8 2 (by kernel_rfl) (by kernel_rfl) (by kernel_rfl) (by kernel_rfl) (by kernel_rfl) (by kernel_rfl) (fun _ _ => by kernel_rfl)
theorem noOwnUnsafe : Tryz.pinned.checked.prog.headLifts.contains "ownunsafe" = false := by kernel_rfl
theorem tie : Tryz.prog.laidByTextLater [("errors.errorType", Rows.laid_errors_errorType), ("enclose/enclose.ErrFloat", Rows.laid_enclose_enclose_ErrFloat), ("enclose/enclose.ErrOrder", Rows.laid_enclose_enclose_ErrOrder), ("enclose/enclose.ErrRange", Rows.laid_enclose_enclose_ErrRange), ("enclose/enclose.ErrZero", Rows.laid_enclose_enclose_ErrZero), ("enclose/enclose.ErrNegative", Rows.laid_enclose_enclose_ErrNegative), ("enclose/enclose.ErrEmpty", Rows.laid_enclose_enclose_ErrEmpty), ("enclose/enclose.ErrName", Rows.laid_enclose_enclose_ErrName), ("enclose/enclose.ErrShape", Rows.laid_enclose_enclose_ErrShape), ("enclose/enclose.ErrSure", Rows.laid_enclose_enclose_ErrSure), ("enclose/enclose.table", Rows.laid_enclose_enclose_table)] [.handle, .sentinel, .sentinel, .sentinel, .sentinel, .sentinel, .sentinel, .sentinel, .sentinel, .sentinel, .funcs] true :=
  Program.laidByTextLater.sub seatTie1 ["errors.errorType", "enclose/enclose.ErrFloat", "enclose/enclose.ErrOrder", "enclose/enclose.ErrRange", "enclose/enclose.ErrZero", "enclose/enclose.ErrNegative", "enclose/enclose.ErrEmpty", "enclose/enclose.ErrName", "enclose/enclose.ErrShape", "enclose/enclose.ErrSure", "enclose/enclose.table"] (by kernel_rfl) (by kernel_rfl)
theorem makes_row_tie : Rows.makesRow.laidByTextAt .later Tryz.pinned [.handle, .sentinel, .sentinel, .sentinel, .sentinel, .sentinel, .sentinel, .sentinel, .sentinel, .sentinel, .funcs] true :=
  OpenClaim.laidByTextAt_later rfl rfl tie noOwnUnsafe
theorem ops_row_tie : Rows.opsRow.laidByTextAt .later Tryz.pinned [.handle, .sentinel, .sentinel, .sentinel, .sentinel, .sentinel, .sentinel, .sentinel, .sentinel, .sentinel, .funcs] true :=
  OpenClaim.laidByTextAt_later rfl rfl tie noOwnUnsafe
theorem applies_row_tie : Rows.appliesRow.laidByTextAt .later Tryz.pinned [.handle, .sentinel, .sentinel, .sentinel, .sentinel, .sentinel, .sentinel, .sentinel, .sentinel, .sentinel, .funcs] true :=
  OpenClaim.laidByTextAt_later rfl rfl tie noOwnUnsafe
theorem exacts_row_tie : Rows.exactsRow.laidByTextAt .later Tryz.pinned [.handle, .sentinel, .sentinel, .sentinel, .sentinel, .sentinel, .sentinel, .sentinel, .sentinel, .sentinel, .funcs] true :=
  OpenClaim.laidByTextAt_later rfl rfl tie noOwnUnsafe
theorem evals_row_tie : Rows.evalsRow.laidByTextAt .later Tryz.pinned [.handle, .sentinel, .sentinel, .sentinel, .sentinel, .sentinel, .sentinel, .sentinel, .sentinel, .sentinel, .funcs] true :=
  OpenClaim.laidByTextAt_later rfl rfl tie noOwnUnsafe
theorem pieces_row_tie : Rows.piecesRow.laidByTextAt .later Tryz.pinned [.handle, .sentinel, .sentinel, .sentinel, .sentinel, .sentinel, .sentinel, .sentinel, .sentinel, .sentinel, .funcs] true :=
  OpenClaim.laidByTextAt_later rfl rfl tie noOwnUnsafe
theorem solves_row_tie : Rows.solvesRow.laidByTextAt .later Tryz.pinned [.handle, .sentinel, .sentinel, .sentinel, .sentinel, .sentinel, .sentinel, .sentinel, .sentinel, .sentinel, .funcs] true :=
  OpenClaim.laidByTextAt_later rfl rfl tie noOwnUnsafe
theorem all_row_tie : Rows.allRow.laidByTextAt .later Tryz.pinned [.handle, .sentinel, .sentinel, .sentinel, .sentinel, .sentinel, .sentinel, .sentinel, .sentinel, .sentinel, .funcs] true :=
  OpenClaim.laidByTextAt_later rfl rfl tie noOwnUnsafe
theorem makesUpto_row_tie : Rows.makesUptoRow.laidByTextAt .later Tryz.pinned [.handle, .sentinel, .sentinel, .sentinel, .sentinel, .sentinel, .sentinel, .sentinel, .sentinel, .sentinel, .funcs] true :=
  OpenClaim.laidByTextAt_later rfl rfl tie noOwnUnsafe
theorem opsUpto_row_tie : Rows.opsUptoRow.laidByTextAt .later Tryz.pinned [.handle, .sentinel, .sentinel, .sentinel, .sentinel, .sentinel, .sentinel, .sentinel, .sentinel, .sentinel, .funcs] true :=
  OpenClaim.laidByTextAt_later rfl rfl tie noOwnUnsafe
theorem appliesUpto_row_tie : Rows.appliesUptoRow.laidByTextAt .later Tryz.pinned [.handle, .sentinel, .sentinel, .sentinel, .sentinel, .sentinel, .sentinel, .sentinel, .sentinel, .sentinel, .funcs] true :=
  OpenClaim.laidByTextAt_later rfl rfl tie noOwnUnsafe
theorem exactsUpto_row_tie : Rows.exactsUptoRow.laidByTextAt .later Tryz.pinned [.handle, .sentinel, .sentinel, .sentinel, .sentinel, .sentinel, .sentinel, .sentinel, .sentinel, .sentinel, .funcs] true :=
  OpenClaim.laidByTextAt_later rfl rfl tie noOwnUnsafe
theorem evalsUpto_row_tie : Rows.evalsUptoRow.laidByTextAt .later Tryz.pinned [.handle, .sentinel, .sentinel, .sentinel, .sentinel, .sentinel, .sentinel, .sentinel, .sentinel, .sentinel, .funcs] true :=
  OpenClaim.laidByTextAt_later rfl rfl tie noOwnUnsafe
theorem piecesUpto_row_tie : Rows.piecesUptoRow.laidByTextAt .later Tryz.pinned [.handle, .sentinel, .sentinel, .sentinel, .sentinel, .sentinel, .sentinel, .sentinel, .sentinel, .sentinel, .funcs] true :=
  OpenClaim.laidByTextAt_later rfl rfl tie noOwnUnsafe
theorem solvesUpto_row_tie : Rows.solvesUptoRow.laidByTextAt .later Tryz.pinned [.handle, .sentinel, .sentinel, .sentinel, .sentinel, .sentinel, .sentinel, .sentinel, .sentinel, .sentinel, .funcs] true :=
  OpenClaim.laidByTextAt_later rfl rfl tie noOwnUnsafe
theorem allUpto_row_tie : Rows.allUptoRow.laidByTextAt .later Tryz.pinned [.handle, .sentinel, .sentinel, .sentinel, .sentinel, .sentinel, .sentinel, .sentinel, .sentinel, .sentinel, .funcs] true :=
  OpenClaim.laidByTextAt_later rfl rfl tie noOwnUnsafe
end Go.Proofs.YtjlibljfpkmpfaaGreatDoor
