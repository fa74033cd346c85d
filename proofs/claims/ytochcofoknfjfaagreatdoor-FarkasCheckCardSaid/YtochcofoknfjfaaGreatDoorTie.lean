/-
  DERIVED. GIVEN WITH THE SEED: THE PROGRAM's TIES (one call each: nine closed facts by the kernel) AND EACH ROW's TIE, after the 31st guide's Derived/Test/Toyas{Tie, Card}.lean. No idea stands in it: it is a product of the set-up. Laid BY PROGRAM, IN A SANDBOX (cutbox-door.mjs). By AI agents, Wed Nov 11 2026. No macro, syntax, notation, axiom, sorry.
-/
import Derived.Test.YtochcofoknfjfaaGreatDoorRows
import Derived.LaidByTextLater
import Derived.SevenTiedAt
import Derived.LaidSub
import Derived.LaidOnce
namespace Go.Proofs.YtochcofoknfjfaaGreatDoor
open Go
set_option maxRecDepth 100000
theorem seatTie1 : Tryz.prog.laidByTextLater [("math/bits.deBruijn32tab", Rows.laid_math_bits_deBruijn32tab), ("math/bits.deBruijn64tab", Rows.laid_math_bits_deBruijn64tab), ("errors.errorType", Rows.laid_errors_errorType), ("raycone/api.ErrText", Rows.laid_raycone_api_ErrText), ("raycone/api.ErrBound", Rows.laid_raycone_api_ErrBound), ("raycone/api.ErrShape", Rows.laid_raycone_api_ErrShape), ("raycone/api.ErrEmpty", Rows.laid_raycone_api_ErrEmpty), ("raycone/api.ErrName", Rows.laid_raycone_api_ErrName), ("raycone/api.ErrNone", Rows.laid_raycone_api_ErrNone), ("raycone/api.ErrOrder", Rows.laid_raycone_api_ErrOrder), ("raycone/api.ErrProof", Rows.laid_raycone_api_ErrProof), ("math/big.leafSize", Rows.laid_math_big_leafSize), ("math/big.divRecursiveThreshold", Rows.laid_math_big_divRecursiveThreshold), ("math/big.karatsubaThreshold", Rows.laid_math_big_karatsubaThreshold), ("math/big.basicSqrThreshold", Rows.laid_math_big_basicSqrThreshold), ("math/big.karatsubaSqrThreshold", Rows.laid_math_big_karatsubaSqrThreshold)] [.data, .data, .handle, .sentinel, .sentinel, .sentinel, .sentinel, .sentinel, .sentinel, .sentinel, .sentinel, .data, .data, .data, .data, .data] true :=
  Program.laidByTextLater_by_one 198 8 65 (by kernel_rfl) (by kernel_rfl) (by kernel_rfl) (by kernel_rfl) (by kernel_rfl) (by kernel_rfl) (fun _ _ => by kernel_rfl)
theorem noOwnUnsafe : Tryz.pinned.checked.prog.headLifts.contains "ownunsafe" = false := by kernel_rfl
theorem tie : Tryz.prog.laidByTextLater [("math/bits.deBruijn32tab", Rows.laid_math_bits_deBruijn32tab), ("math/bits.deBruijn64tab", Rows.laid_math_bits_deBruijn64tab), ("math/big.leafSize", Rows.laid_math_big_leafSize), ("math/big.divRecursiveThreshold", Rows.laid_math_big_divRecursiveThreshold), ("math/big.karatsubaThreshold", Rows.laid_math_big_karatsubaThreshold), ("math/big.basicSqrThreshold", Rows.laid_math_big_basicSqrThreshold), ("math/big.karatsubaSqrThreshold", Rows.laid_math_big_karatsubaSqrThreshold)] [.data, .data, .data, .data, .data, .data, .data] true :=
  Program.laidByTextLater.sub seatTie1 ["math/bits.deBruijn32tab", "math/bits.deBruijn64tab", "math/big.leafSize", "math/big.divRecursiveThreshold", "math/big.karatsubaThreshold", "math/big.basicSqrThreshold", "math/big.karatsubaSqrThreshold"] (by kernel_rfl) (by kernel_rfl)
theorem rowsNormal_row_tie : Rows.rowsNormalRow.laidByTextAt .later Tryz.pinned [.data, .data, .data, .data, .data, .data, .data] true :=
  OpenClaim.laidByTextAt_later rfl rfl tie noOwnUnsafe
theorem tie2 : Tryz.prog.laidByTextLater [("math/bits.deBruijn32tab", Rows.laid_math_bits_deBruijn32tab), ("math/bits.deBruijn64tab", Rows.laid_math_bits_deBruijn64tab), ("errors.errorType", Rows.laid_errors_errorType), ("raycone/api.ErrText", Rows.laid_raycone_api_ErrText), ("raycone/api.ErrBound", Rows.laid_raycone_api_ErrBound), ("raycone/api.ErrShape", Rows.laid_raycone_api_ErrShape), ("raycone/api.ErrEmpty", Rows.laid_raycone_api_ErrEmpty), ("raycone/api.ErrName", Rows.laid_raycone_api_ErrName), ("raycone/api.ErrNone", Rows.laid_raycone_api_ErrNone), ("raycone/api.ErrOrder", Rows.laid_raycone_api_ErrOrder), ("raycone/api.ErrProof", Rows.laid_raycone_api_ErrProof), ("math/big.leafSize", Rows.laid_math_big_leafSize), ("math/big.divRecursiveThreshold", Rows.laid_math_big_divRecursiveThreshold), ("math/big.karatsubaThreshold", Rows.laid_math_big_karatsubaThreshold), ("math/big.basicSqrThreshold", Rows.laid_math_big_basicSqrThreshold), ("math/big.karatsubaSqrThreshold", Rows.laid_math_big_karatsubaSqrThreshold)] [.data, .data, .handle, .sentinel, .sentinel, .sentinel, .sentinel, .sentinel, .sentinel, .sentinel, .sentinel, .data, .data, .data, .data, .data] true :=
  Program.laidByTextLater.sub seatTie1 ["math/bits.deBruijn32tab", "math/bits.deBruijn64tab", "errors.errorType", "raycone/api.ErrText", "raycone/api.ErrBound", "raycone/api.ErrShape", "raycone/api.ErrEmpty", "raycone/api.ErrName", "raycone/api.ErrNone", "raycone/api.ErrOrder", "raycone/api.ErrProof", "math/big.leafSize", "math/big.divRecursiveThreshold", "math/big.karatsubaThreshold", "math/big.basicSqrThreshold", "math/big.karatsubaSqrThreshold"] (by kernel_rfl) (by kernel_rfl)
theorem farkasCheck_row_tie : Rows.farkasCheckRow.laidByTextAt .later Tryz.pinned [.data, .data, .handle, .sentinel, .sentinel, .sentinel, .sentinel, .sentinel, .sentinel, .sentinel, .sentinel, .data, .data, .data, .data, .data] true :=
  OpenClaim.laidByTextAt_later rfl rfl tie2 noOwnUnsafe
theorem rowsDot_row_tie : Rows.rowsDotRow.laidByTextAt .later Tryz.pinned [.data, .data, .handle, .sentinel, .sentinel, .sentinel, .sentinel, .sentinel, .sentinel, .sentinel, .sentinel, .data, .data, .data, .data, .data] true :=
  OpenClaim.laidByTextAt_later rfl rfl tie2 noOwnUnsafe
theorem rowsCombine_row_tie : Rows.rowsCombineRow.laidByTextAt .later Tryz.pinned [.data, .data, .handle, .sentinel, .sentinel, .sentinel, .sentinel, .sentinel, .sentinel, .sentinel, .sentinel, .data, .data, .data, .data, .data] true :=
  OpenClaim.laidByTextAt_later rfl rfl tie2 noOwnUnsafe
theorem tie3 : Tryz.prog.laidByTextLater [("math/bits.deBruijn32tab", Rows.laid_math_bits_deBruijn32tab), ("math/bits.deBruijn64tab", Rows.laid_math_bits_deBruijn64tab), ("raycone/api.ErrBound", Rows.laid_raycone_api_ErrBound), ("raycone/api.ErrShape", Rows.laid_raycone_api_ErrShape), ("math/big.leafSize", Rows.laid_math_big_leafSize), ("math/big.divRecursiveThreshold", Rows.laid_math_big_divRecursiveThreshold), ("math/big.karatsubaThreshold", Rows.laid_math_big_karatsubaThreshold), ("math/big.basicSqrThreshold", Rows.laid_math_big_basicSqrThreshold), ("math/big.karatsubaSqrThreshold", Rows.laid_math_big_karatsubaSqrThreshold)] [.data, .data, .sentinel, .sentinel, .data, .data, .data, .data, .data] true :=
  Program.laidByTextLater.sub seatTie1 ["math/bits.deBruijn32tab", "math/bits.deBruijn64tab", "raycone/api.ErrBound", "raycone/api.ErrShape", "math/big.leafSize", "math/big.divRecursiveThreshold", "math/big.karatsubaThreshold", "math/big.basicSqrThreshold", "math/big.karatsubaSqrThreshold"] (by kernel_rfl) (by kernel_rfl)
theorem rowsTurned_row_tie : Rows.rowsTurnedRow.laidByTextAt .later Tryz.pinned [.data, .data, .sentinel, .sentinel, .data, .data, .data, .data, .data] true :=
  OpenClaim.laidByTextAt_later rfl rfl tie3 noOwnUnsafe
theorem rowsSpan_row_tie : Rows.rowsSpanRow.laidByTextAt .later Tryz.pinned [.data, .data, .sentinel, .sentinel, .data, .data, .data, .data, .data] true :=
  OpenClaim.laidByTextAt_later rfl rfl tie3 noOwnUnsafe
theorem rowsNormalUpto_row_tie : Rows.rowsNormalUptoRow.laidByTextAt .later Tryz.pinned [.data, .data, .data, .data, .data, .data, .data] true :=
  OpenClaim.laidByTextAt_later rfl rfl tie noOwnUnsafe
theorem farkasCheckUpto_row_tie : Rows.farkasCheckUptoRow.laidByTextAt .later Tryz.pinned [.data, .data, .handle, .sentinel, .sentinel, .sentinel, .sentinel, .sentinel, .sentinel, .sentinel, .sentinel, .data, .data, .data, .data, .data] true :=
  OpenClaim.laidByTextAt_later rfl rfl tie2 noOwnUnsafe
theorem rowsTurnedUpto_row_tie : Rows.rowsTurnedUptoRow.laidByTextAt .later Tryz.pinned [.data, .data, .sentinel, .sentinel, .data, .data, .data, .data, .data] true :=
  OpenClaim.laidByTextAt_later rfl rfl tie3 noOwnUnsafe
theorem rowsDotUpto_row_tie : Rows.rowsDotUptoRow.laidByTextAt .later Tryz.pinned [.data, .data, .handle, .sentinel, .sentinel, .sentinel, .sentinel, .sentinel, .sentinel, .sentinel, .sentinel, .data, .data, .data, .data, .data] true :=
  OpenClaim.laidByTextAt_later rfl rfl tie2 noOwnUnsafe
theorem rowsCombineUpto_row_tie : Rows.rowsCombineUptoRow.laidByTextAt .later Tryz.pinned [.data, .data, .handle, .sentinel, .sentinel, .sentinel, .sentinel, .sentinel, .sentinel, .sentinel, .sentinel, .data, .data, .data, .data, .data] true :=
  OpenClaim.laidByTextAt_later rfl rfl tie2 noOwnUnsafe
end Go.Proofs.YtochcofoknfjfaaGreatDoor
