/-
  DERIVED. GIVEN WITH THE SEED: THE PROGRAM's TIES (one call each: nine closed facts by the kernel) AND EACH ROW's TIE, after the 31st guide's Derived/Test/Toyas{Tie, Card}.lean. No idea stands in it: it is a product of the set-up. Laid BY PROGRAM, IN A SANDBOX (cutbox-door.mjs). By AI agents, Wed Nov 11 2026. No macro, syntax, notation, axiom, sorry.
-/
import Derived.Test.YtjlibljfpkmpfaaDoorRows
import Derived.LaidByTextLater
import Derived.SevenTiedAt
import Derived.LaidSub
import Derived.LaidOnce
namespace Go.Proofs.YtjlibljfpkmpfaaDoor
open Go
set_option maxRecDepth 100000
theorem seatTie1 : Tryd.prog.laidByTextLater [("errors.errorType", Rows.laid_errors_errorType), ("enclose/enclose.ErrFloat", Rows.laid_enclose_enclose_ErrFloat), ("enclose/enclose.ErrOrder", Rows.laid_enclose_enclose_ErrOrder), ("enclose/enclose.ErrRange", Rows.laid_enclose_enclose_ErrRange), ("enclose/enclose.ErrZero", Rows.laid_enclose_enclose_ErrZero), ("enclose/enclose.ErrNegative", Rows.laid_enclose_enclose_ErrNegative), ("enclose/enclose.ErrEmpty", Rows.laid_enclose_enclose_ErrEmpty), ("enclose/enclose.ErrName", Rows.laid_enclose_enclose_ErrName), ("enclose/enclose.ErrShape", Rows.laid_enclose_enclose_ErrShape), ("enclose/enclose.ErrSure", Rows.laid_enclose_enclose_ErrSure)] [.handle, .sentinel, .sentinel, .sentinel, .sentinel, .sentinel, .sentinel, .sentinel, .sentinel, .sentinel] true :=
  Program.laidByTextLater_by_one 187 8 2 (by kernel_rfl) (by kernel_rfl) (by kernel_rfl) (by kernel_rfl) (by kernel_rfl) (by kernel_rfl) (fun _ _ => by kernel_rfl)
theorem noOwnUnsafe : Tryd.pinned.checked.prog.headLifts.contains "ownunsafe" = false := by kernel_rfl
theorem tie : Tryd.prog.laidByTextLater [("errors.errorType", Rows.laid_errors_errorType), ("enclose/enclose.ErrFloat", Rows.laid_enclose_enclose_ErrFloat), ("enclose/enclose.ErrOrder", Rows.laid_enclose_enclose_ErrOrder), ("enclose/enclose.ErrRange", Rows.laid_enclose_enclose_ErrRange), ("enclose/enclose.ErrZero", Rows.laid_enclose_enclose_ErrZero), ("enclose/enclose.ErrNegative", Rows.laid_enclose_enclose_ErrNegative), ("enclose/enclose.ErrEmpty", Rows.laid_enclose_enclose_ErrEmpty), ("enclose/enclose.ErrName", Rows.laid_enclose_enclose_ErrName), ("enclose/enclose.ErrShape", Rows.laid_enclose_enclose_ErrShape), ("enclose/enclose.ErrSure", Rows.laid_enclose_enclose_ErrSure)] [.handle, .sentinel, .sentinel, .sentinel, .sentinel, .sentinel, .sentinel, .sentinel, .sentinel, .sentinel] true :=
  Program.laidByTextLater.sub seatTie1 ["errors.errorType", "enclose/enclose.ErrFloat", "enclose/enclose.ErrOrder", "enclose/enclose.ErrRange", "enclose/enclose.ErrZero", "enclose/enclose.ErrNegative", "enclose/enclose.ErrEmpty", "enclose/enclose.ErrName", "enclose/enclose.ErrShape", "enclose/enclose.ErrSure"] (by kernel_rfl) (by kernel_rfl)
theorem names_row_tie : Rows.namesRow.laidByTextAt .later Tryd.pinned [.handle, .sentinel, .sentinel, .sentinel, .sentinel, .sentinel, .sentinel, .sentinel, .sentinel, .sentinel] true :=
  OpenClaim.laidByTextAt_later rfl rfl tie noOwnUnsafe
theorem finds_row_tie : Rows.findsRow.laidByTextAt .later Tryd.pinned [.handle, .sentinel, .sentinel, .sentinel, .sentinel, .sentinel, .sentinel, .sentinel, .sentinel, .sentinel] true :=
  OpenClaim.laidByTextAt_later rfl rfl tie noOwnUnsafe
theorem knows_row_tie : Rows.knowsRow.laidByTextAt .later Tryd.pinned [.handle, .sentinel, .sentinel, .sentinel, .sentinel, .sentinel, .sentinel, .sentinel, .sentinel, .sentinel] true :=
  OpenClaim.laidByTextAt_later rfl rfl tie noOwnUnsafe
theorem balances_row_tie : Rows.balancesRow.laidByTextAt .later Tryd.pinned [.handle, .sentinel, .sentinel, .sentinel, .sentinel, .sentinel, .sentinel, .sentinel, .sentinel, .sentinel] true :=
  OpenClaim.laidByTextAt_later rfl rfl tie noOwnUnsafe
theorem namesUpto_row_tie : Rows.namesUptoRow.laidByTextAt .later Tryd.pinned [.handle, .sentinel, .sentinel, .sentinel, .sentinel, .sentinel, .sentinel, .sentinel, .sentinel, .sentinel] true :=
  OpenClaim.laidByTextAt_later rfl rfl tie noOwnUnsafe
theorem findsUpto_row_tie : Rows.findsUptoRow.laidByTextAt .later Tryd.pinned [.handle, .sentinel, .sentinel, .sentinel, .sentinel, .sentinel, .sentinel, .sentinel, .sentinel, .sentinel] true :=
  OpenClaim.laidByTextAt_later rfl rfl tie noOwnUnsafe
theorem knowsUpto_row_tie : Rows.knowsUptoRow.laidByTextAt .later Tryd.pinned [.handle, .sentinel, .sentinel, .sentinel, .sentinel, .sentinel, .sentinel, .sentinel, .sentinel, .sentinel] true :=
  OpenClaim.laidByTextAt_later rfl rfl tie noOwnUnsafe
theorem balancesUpto_row_tie : Rows.balancesUptoRow.laidByTextAt .later Tryd.pinned [.handle, .sentinel, .sentinel, .sentinel, .sentinel, .sentinel, .sentinel, .sentinel, .sentinel, .sentinel] true :=
  OpenClaim.laidByTextAt_later rfl rfl tie noOwnUnsafe
end Go.Proofs.YtjlibljfpkmpfaaDoor
