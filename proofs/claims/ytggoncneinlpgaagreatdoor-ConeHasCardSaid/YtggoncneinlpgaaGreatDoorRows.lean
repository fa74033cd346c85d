/-
  NARROWER THAN 'FOR EVERY INPUT', by the rows' own cells (each row's printed sentence says how): ConeHas: calm, laid.
  DERIVED. THE GIVEN ROWS OF THIS SEAT. 1 by the template 'for every input the law returns true; each argument reads behind the call as it read before'; 0 by the template 'total and deterministic' (their statements: YtggoncneinlpgaaGreatDoorTotals.lean).
  GIVEN WITH THE SEED: the statements are not yours to turn. If you find one false, say at which input.
  Laid BY PROGRAM, IN A SANDBOX (cutbox-rows.mjs): the forced cells as the released guide's own fill.sh prints them over the translation 36aba3b1512cf337… (all of the seat's roots in one cut). By AI agents, Wed Nov 11 2026. No macro, syntax, notation, axiom, sorry.
-/
import Derived.Test.YtggoncneinlpgaaGreatDoorChecked
import GoSem.Claim
import GoSem.ClaimJoined
import GoSem.ClaimMapViews
import Derived.JoinedTies
import Derived.KernelRfl
namespace Go.Proofs.YtggoncneinlpgaaGreatDoor
/- THE CELL 'sum', in the pinned program and in every row, IS THE sha256 OF THE DUMP (.gsa) THAT YtggoncneinlpgaaGreatDoorProg.lean LOADS. Nothing in Lean hashes anything: it is a label: what it is worth is what the hold of that sum in a sandbox is worth. -/
noncomputable def Tryz.pinned : Pinned := { name := "ytggoncneinlpgaagreatdoor", sum := "36aba3b1512cf33723b32a2aecbd5d62c98023334b41d0b81c29cab91bdbfea3", checked := Tryz.checked }
namespace Rows
def none {H : Type} : Left H := { results := [], args := [] }

/- WHAT THE LISTED PACKAGE-LEVEL VARIABLES READ AS WHEN THE CALL BEGINS. Each datum BY PROGRAM (the guide's laid-datum.mjs) off the statement by which the dump's own 'gosem.cut.vars' lays the variable. In a bare row this is a premise. The card (YtggoncneinlpgaaGreatDoorCards.lean) ties it to the program's text. -/
def laid_math_bits_deBruijn32tab {H : Type} : DataW H := .agg [.lit (.int .u8 0), .lit (.int .u8 1), .lit (.int .u8 28), .lit (.int .u8 2), .lit (.int .u8 29), .lit (.int .u8 14), .lit (.int .u8 24), .lit (.int .u8 3), .lit (.int .u8 30), .lit (.int .u8 22), .lit (.int .u8 20), .lit (.int .u8 15), .lit (.int .u8 25), .lit (.int .u8 17), .lit (.int .u8 4), .lit (.int .u8 8), .lit (.int .u8 31), .lit (.int .u8 27), .lit (.int .u8 13), .lit (.int .u8 23), .lit (.int .u8 21), .lit (.int .u8 19), .lit (.int .u8 16), .lit (.int .u8 7), .lit (.int .u8 26), .lit (.int .u8 12), .lit (.int .u8 18), .lit (.int .u8 6), .lit (.int .u8 11), .lit (.int .u8 5), .lit (.int .u8 10), .lit (.int .u8 9)]
def laid_math_bits_deBruijn64tab {H : Type} : DataW H := .agg [.lit (.int .u8 0), .lit (.int .u8 1), .lit (.int .u8 56), .lit (.int .u8 2), .lit (.int .u8 57), .lit (.int .u8 49), .lit (.int .u8 28), .lit (.int .u8 3), .lit (.int .u8 61), .lit (.int .u8 58), .lit (.int .u8 42), .lit (.int .u8 50), .lit (.int .u8 38), .lit (.int .u8 29), .lit (.int .u8 17), .lit (.int .u8 4), .lit (.int .u8 62), .lit (.int .u8 47), .lit (.int .u8 59), .lit (.int .u8 36), .lit (.int .u8 45), .lit (.int .u8 43), .lit (.int .u8 51), .lit (.int .u8 22), .lit (.int .u8 53), .lit (.int .u8 39), .lit (.int .u8 33), .lit (.int .u8 30), .lit (.int .u8 24), .lit (.int .u8 18), .lit (.int .u8 12), .lit (.int .u8 5), .lit (.int .u8 63), .lit (.int .u8 55), .lit (.int .u8 48), .lit (.int .u8 27), .lit (.int .u8 60), .lit (.int .u8 41), .lit (.int .u8 37), .lit (.int .u8 16), .lit (.int .u8 46), .lit (.int .u8 35), .lit (.int .u8 44), .lit (.int .u8 21), .lit (.int .u8 52), .lit (.int .u8 32), .lit (.int .u8 23), .lit (.int .u8 11), .lit (.int .u8 54), .lit (.int .u8 26), .lit (.int .u8 40), .lit (.int .u8 15), .lit (.int .u8 34), .lit (.int .u8 20), .lit (.int .u8 31), .lit (.int .u8 10), .lit (.int .u8 25), .lit (.int .u8 14), .lit (.int .u8 19), .lit (.int .u8 9), .lit (.int .u8 13), .lit (.int .u8 8), .lit (.int .u8 7), .lit (.int .u8 6)]
def laid_errors_errorType {H : Type} : DataW H := .iface "internal/reflectlite.rtype" (.agg [.ptr (.lit (.string [101, 114, 114, 111, 114]))])
def laid_raycone_api_ErrText {H : Type} : DataW H := .iface "*errors.errorString" (.ptr (.agg [.lit (.string [114, 97, 121, 99, 111, 110, 101, 58, 32, 116, 101, 120, 116])]))
def laid_raycone_api_ErrBound {H : Type} : DataW H := .iface "*errors.errorString" (.ptr (.agg [.lit (.string [114, 97, 121, 99, 111, 110, 101, 58, 32, 98, 111, 117, 110, 100])]))
def laid_raycone_api_ErrShape {H : Type} : DataW H := .iface "*errors.errorString" (.ptr (.agg [.lit (.string [114, 97, 121, 99, 111, 110, 101, 58, 32, 115, 104, 97, 112, 101])]))
def laid_raycone_api_ErrEmpty {H : Type} : DataW H := .iface "*errors.errorString" (.ptr (.agg [.lit (.string [114, 97, 121, 99, 111, 110, 101, 58, 32, 101, 109, 112, 116, 121])]))
def laid_raycone_api_ErrName {H : Type} : DataW H := .iface "*errors.errorString" (.ptr (.agg [.lit (.string [114, 97, 121, 99, 111, 110, 101, 58, 32, 110, 97, 109, 101])]))
def laid_raycone_api_ErrNone {H : Type} : DataW H := .iface "*errors.errorString" (.ptr (.agg [.lit (.string [114, 97, 121, 99, 111, 110, 101, 58, 32, 110, 111, 110, 101])]))
def laid_raycone_api_ErrOrder {H : Type} : DataW H := .iface "*errors.errorString" (.ptr (.agg [.lit (.string [114, 97, 121, 99, 111, 110, 101, 58, 32, 111, 114, 100, 101, 114])]))
def laid_raycone_api_ErrProof {H : Type} : DataW H := .iface "*errors.errorString" (.ptr (.agg [.lit (.string [114, 97, 121, 99, 111, 110, 101, 58, 32, 112, 114, 111, 111, 102])]))
def laid_math_big_leafSize {H : Type} : DataW H := .lit (.int .i64 8)
def laid_math_big_divRecursiveThreshold {H : Type} : DataW H := .lit (.int .i64 40)
def laid_math_big_karatsubaThreshold {H : Type} : DataW H := .lit (.int .i64 40)
def laid_math_big_basicSqrThreshold {H : Type} : DataW H := .lit (.int .i64 12)
def laid_math_big_karatsubaSqrThreshold {H : Type} : DataW H := .lit (.int .i64 80)

/-- 'rayconelaw1.ConeHas': WHATEVER THE INPUT: true; the input reads as it did. -/
def coneHasSpec : ChangeSpec := { name := "coneHas", fn := fun _ => fun
  | [d1, d2, d3, d4] => { results := [.lit (.bool true)], args := [d1, d2, d3, d4] }
  | _ => none }
def coneHasRow : OpenClaim := { program := "ytggoncneinlpgaagreatdoor", sum := "36aba3b1512cf33723b32a2aecbd5d62c98023334b41d0b81c29cab91bdbfea3", func := "raycone/rayconelaw1.ConeHas", spec := "coneHas", inPlace := ["math/big.addMulVVWW", "math/bits.Add64", "(*sync.Pool).Put", "sync.runtime_randn", "sync.poolRaceAddr", "internal/race.ReleaseMerge", "internal/race.Disable", "(*sync.Pool).pin", "sync.runtime_procPin", "internal/runtime/atomic.LoadAcquintptr", "sync.indexLocal", "(*sync.Pool).pinSlow", "sync.runtime_procUnpin", "(*internal/sync.Mutex).Lock", "sync/atomic.CompareAndSwapInt32", "internal/race.Enable", "internal/race.Acquire", "(*internal/sync.Mutex).lockSlow", "internal/sync.runtime_canSpin", "internal/sync.runtime_doSpin", "internal/sync.throw", "internal/sync.runtime_nanotime", "internal/sync.runtime_SemacquireMutex", "sync/atomic.AddInt32", "(*internal/sync.Mutex).Unlock", "(*internal/sync.Mutex).unlockSlow", "internal/sync.fatal", "internal/sync.runtime_Semrelease", "runtime.GOMAXPROCS", "sync/atomic.StorePointer", "internal/runtime/atomic.StoreReluintptr", "(*sync.poolDequeue).pushHead", "(*sync.Pool).Get", "(*sync.poolDequeue).popHead", "sync/atomic.LoadPointer", "(*sync.Pool).getSlow", "(*sync.poolDequeue).popTail", "sync/atomic.CompareAndSwapPointer", "sync/atomic.LoadUintptr", "sync/atomic.StoreUintptr", "internal/race.Read", "math/big.lshVU", "math/big.addVV", "math/big.subVV", "math/bits.Sub64", "math.Float64bits", "math.Float64frombits", "math.archLog", "math/big.mulAddVWW", "math/big.rshVU", "slices.overlaps[raycone/exact.Row]", "internal/reflectlite.ValueOf", "(internal/reflectlite.Value).Type", "(internal/reflectlite.Value).IsNil", "internal/reflectlite.TypeOf", "(internal/reflectlite.Value).Elem", "(internal/reflectlite.Value).Set"], unfollowed := true, recurses := true, named := ["raycone/api.ErrBound", "raycone/api.ErrShape", "math/big.basicSqrThreshold", "math/big.karatsubaSqrThreshold", "math/big.stackPool", "sync.allPoolsMu", "sync.allPools", "math/bits.deBruijn32tab", "math/bits.deBruijn64tab", "math/big.leafSize", "math/big.cacheBase10", "math/bits.overflowError", "math/bits.divideError", "math/big.divRecursiveThreshold", "math/big.karatsubaThreshold", "math/big.natOne", "math/big.intOne", "raycone/api.ErrText", "raycone/api.ErrEmpty", "raycone/api.ErrName", "raycone/api.ErrNone", "raycone/api.ErrOrder", "raycone/api.ErrProof", "errors.errorType"], apart := false, calm := true, outside := [.timePasses], laid := [("math/bits.deBruijn32tab", laid_math_bits_deBruijn32tab), ("math/bits.deBruijn64tab", laid_math_bits_deBruijn64tab), ("errors.errorType", laid_errors_errorType), ("raycone/api.ErrText", laid_raycone_api_ErrText), ("raycone/api.ErrBound", laid_raycone_api_ErrBound), ("raycone/api.ErrShape", laid_raycone_api_ErrShape), ("raycone/api.ErrEmpty", laid_raycone_api_ErrEmpty), ("raycone/api.ErrName", laid_raycone_api_ErrName), ("raycone/api.ErrNone", laid_raycone_api_ErrNone), ("raycone/api.ErrOrder", laid_raycone_api_ErrOrder), ("raycone/api.ErrProof", laid_raycone_api_ErrProof), ("math/big.leafSize", laid_math_big_leafSize), ("math/big.divRecursiveThreshold", laid_math_big_divRecursiveThreshold), ("math/big.karatsubaThreshold", laid_math_big_karatsubaThreshold), ("math/big.basicSqrThreshold", laid_math_big_basicSqrThreshold), ("math/big.karatsubaSqrThreshold", laid_math_big_karatsubaSqrThreshold)] }
def ConeHasSaid : Prop := coneHasRow.holds Tryz.pinned (OpenSpec.ofChange coneHasSpec)

/-- ITS FALSE NEIGHBOUR: 'it returns false'. Refute it at one input. -/
def coneHasWrong : ChangeSpec := { name := "coneHas", fn := fun _ => fun
  | [d1, d2, d3, d4] => { results := [.lit (.bool false)], args := [d1, d2, d3, d4] }
  | _ => none }
def ConeHasWrongFalsely : Prop := coneHasRow.holds Tryz.pinned (OpenSpec.ofChange coneHasWrong)

end Rows
end Go.Proofs.YtggoncneinlpgaaGreatDoor
