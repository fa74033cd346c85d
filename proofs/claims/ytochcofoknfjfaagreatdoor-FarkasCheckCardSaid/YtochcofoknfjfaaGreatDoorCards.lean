/-
  DERIVED. GIVEN WITH THE SEED: THE CARDS: each row of YtochcofoknfjfaaGreatDoorRows.lean that lists a variable, with what it lists TIED to the program's text (the seventh form; the later family's looks); each row that meets fmt, with fmt's text TOLD by the authors' own Lean function (tested against real Go, not proved from fmt's source: count such statements apart). THE CARD IS WHAT COUNTS. Prove the row's statement (the work); the ties are given (YtochcofoknfjfaaGreatDoorTie.lean); close each card by the builder's one call (the guide's Derived/Test/ToyasCard.lean, 'card_holds'). Laid BY PROGRAM, IN A SANDBOX (cutbox-door.mjs). By AI agents, Wed Nov 11 2026. No macro, syntax, notation, axiom, sorry.
-/
import Derived.Test.YtochcofoknfjfaaGreatDoorRows
import GoSem.ClaimSeven
namespace Go.Proofs.YtochcofoknfjfaaGreatDoor
namespace Rows

/-- THE TIED CARD OF 'rayconelaw1.RowsNormal'. -/
def rowsNormalCard : Claim7 := { stood := { row := rowsNormalRow, standIns := [], harness := (true, "420a5f5b5918bd3164aba54de3e4b964d6ea782b8fa638fc32f8eb0bc5d50a68"), looks := true }, kinds := [], alts := [], laidByText := true, laidKinds := [.data, .data, .data, .data, .data, .data, .data], laidTests := true, laidLooks := .later }
def RowsNormalCardSaid : Prop := Claim7.holds Tryz.pinned (.plain (OpenSpec.ofChange rowsNormalSpec)) rowsNormalCard

/-- THE TIED CARD OF 'rayconelaw1.FarkasCheck'. -/
def farkasCheckCard : Claim7 := { stood := { row := farkasCheckRow, standIns := [], harness := (true, "420a5f5b5918bd3164aba54de3e4b964d6ea782b8fa638fc32f8eb0bc5d50a68"), looks := true }, kinds := [], alts := [], laidByText := true, laidKinds := [.data, .data, .handle, .sentinel, .sentinel, .sentinel, .sentinel, .sentinel, .sentinel, .sentinel, .sentinel, .data, .data, .data, .data, .data], laidTests := true, laidLooks := .later }
def FarkasCheckCardSaid : Prop := Claim7.holds Tryz.pinned (.plain (OpenSpec.ofChange farkasCheckSpec)) farkasCheckCard

/-- THE TIED CARD OF 'rayconelaw1.RowsTurned'. -/
def rowsTurnedCard : Claim7 := { stood := { row := rowsTurnedRow, standIns := [], harness := (true, "420a5f5b5918bd3164aba54de3e4b964d6ea782b8fa638fc32f8eb0bc5d50a68"), looks := true }, kinds := [], alts := [], laidByText := true, laidKinds := [.data, .data, .sentinel, .sentinel, .data, .data, .data, .data, .data], laidTests := true, laidLooks := .later }
def RowsTurnedCardSaid : Prop := Claim7.holds Tryz.pinned (.plain (OpenSpec.ofChange rowsTurnedSpec)) rowsTurnedCard

/-- THE TIED CARD OF 'rayconelaw1.RowsDot'. -/
def rowsDotCard : Claim7 := { stood := { row := rowsDotRow, standIns := [], harness := (true, "420a5f5b5918bd3164aba54de3e4b964d6ea782b8fa638fc32f8eb0bc5d50a68"), looks := true }, kinds := [], alts := [], laidByText := true, laidKinds := [.data, .data, .handle, .sentinel, .sentinel, .sentinel, .sentinel, .sentinel, .sentinel, .sentinel, .sentinel, .data, .data, .data, .data, .data], laidTests := true, laidLooks := .later }
def RowsDotCardSaid : Prop := Claim7.holds Tryz.pinned (.plain (OpenSpec.ofChange rowsDotSpec)) rowsDotCard

/-- THE TIED CARD OF 'rayconelaw1.RowsCombine'. -/
def rowsCombineCard : Claim7 := { stood := { row := rowsCombineRow, standIns := [], harness := (true, "420a5f5b5918bd3164aba54de3e4b964d6ea782b8fa638fc32f8eb0bc5d50a68"), looks := true }, kinds := [], alts := [], laidByText := true, laidKinds := [.data, .data, .handle, .sentinel, .sentinel, .sentinel, .sentinel, .sentinel, .sentinel, .sentinel, .sentinel, .data, .data, .data, .data, .data], laidTests := true, laidLooks := .later }
def RowsCombineCardSaid : Prop := Claim7.holds Tryz.pinned (.plain (OpenSpec.ofChange rowsCombineSpec)) rowsCombineCard

/-- THE TIED CARD OF 'rayconelaw1.RowsSpan'. -/
def rowsSpanCard : Claim7 := { stood := { row := rowsSpanRow, standIns := [], harness := (true, "420a5f5b5918bd3164aba54de3e4b964d6ea782b8fa638fc32f8eb0bc5d50a68"), looks := true }, kinds := [], alts := [], laidByText := true, laidKinds := [.data, .data, .sentinel, .sentinel, .data, .data, .data, .data, .data], laidTests := true, laidLooks := .later }
def RowsSpanCardSaid : Prop := Claim7.holds Tryz.pinned (.plain (OpenSpec.ofChange rowsSpanSpec)) rowsSpanCard

/-- THE SECOND FORM's CARD OF 'rayconelaw1.RowsNormal'. -/
def rowsNormalUptoCard : Claim7 := { stood := { row := rowsNormalUptoRow, standIns := [], harness := (true, "420a5f5b5918bd3164aba54de3e4b964d6ea782b8fa638fc32f8eb0bc5d50a68"), looks := true }, kinds := [], alts := [], laidByText := true, laidKinds := [.data, .data, .data, .data, .data, .data, .data], laidTests := true, laidLooks := .later }
def RowsNormalUptoCardSaid : Prop := Claim7.holds Tryz.pinned (.plain (OpenSpec.upto rowsNormalSpec)) rowsNormalUptoCard

/-- THE SECOND FORM's CARD OF 'rayconelaw1.FarkasCheck'. -/
def farkasCheckUptoCard : Claim7 := { stood := { row := farkasCheckUptoRow, standIns := [], harness := (true, "420a5f5b5918bd3164aba54de3e4b964d6ea782b8fa638fc32f8eb0bc5d50a68"), looks := true }, kinds := [], alts := [], laidByText := true, laidKinds := [.data, .data, .handle, .sentinel, .sentinel, .sentinel, .sentinel, .sentinel, .sentinel, .sentinel, .sentinel, .data, .data, .data, .data, .data], laidTests := true, laidLooks := .later }
def FarkasCheckUptoCardSaid : Prop := Claim7.holds Tryz.pinned (.plain (OpenSpec.upto farkasCheckSpec)) farkasCheckUptoCard

/-- THE SECOND FORM's CARD OF 'rayconelaw1.RowsTurned'. -/
def rowsTurnedUptoCard : Claim7 := { stood := { row := rowsTurnedUptoRow, standIns := [], harness := (true, "420a5f5b5918bd3164aba54de3e4b964d6ea782b8fa638fc32f8eb0bc5d50a68"), looks := true }, kinds := [], alts := [], laidByText := true, laidKinds := [.data, .data, .sentinel, .sentinel, .data, .data, .data, .data, .data], laidTests := true, laidLooks := .later }
def RowsTurnedUptoCardSaid : Prop := Claim7.holds Tryz.pinned (.plain (OpenSpec.upto rowsTurnedSpec)) rowsTurnedUptoCard

/-- THE SECOND FORM's CARD OF 'rayconelaw1.RowsDot'. -/
def rowsDotUptoCard : Claim7 := { stood := { row := rowsDotUptoRow, standIns := [], harness := (true, "420a5f5b5918bd3164aba54de3e4b964d6ea782b8fa638fc32f8eb0bc5d50a68"), looks := true }, kinds := [], alts := [], laidByText := true, laidKinds := [.data, .data, .handle, .sentinel, .sentinel, .sentinel, .sentinel, .sentinel, .sentinel, .sentinel, .sentinel, .data, .data, .data, .data, .data], laidTests := true, laidLooks := .later }
def RowsDotUptoCardSaid : Prop := Claim7.holds Tryz.pinned (.plain (OpenSpec.upto rowsDotSpec)) rowsDotUptoCard

/-- THE SECOND FORM's CARD OF 'rayconelaw1.RowsCombine'. -/
def rowsCombineUptoCard : Claim7 := { stood := { row := rowsCombineUptoRow, standIns := [], harness := (true, "420a5f5b5918bd3164aba54de3e4b964d6ea782b8fa638fc32f8eb0bc5d50a68"), looks := true }, kinds := [], alts := [], laidByText := true, laidKinds := [.data, .data, .handle, .sentinel, .sentinel, .sentinel, .sentinel, .sentinel, .sentinel, .sentinel, .sentinel, .data, .data, .data, .data, .data], laidTests := true, laidLooks := .later }
def RowsCombineUptoCardSaid : Prop := Claim7.holds Tryz.pinned (.plain (OpenSpec.upto rowsCombineSpec)) rowsCombineUptoCard
end Rows
end Go.Proofs.YtochcofoknfjfaaGreatDoor
