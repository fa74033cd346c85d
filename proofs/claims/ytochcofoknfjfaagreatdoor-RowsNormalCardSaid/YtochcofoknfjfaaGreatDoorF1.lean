/- The closed facts of the row RowsNormal, each by itself. -/
import Derived.Test.YtochcofoknfjfaaGreatDoorRows
import Derived.JoinedOf
namespace Go.Proofs.YtochcofoknfjfaaGreatDoor
open Go
theorem and_t {a b : Bool} (ha : a = true) (hb : b = true) : (a && b) = true := by rw [ha, hb]; rfl
set_option maxRecDepth 100000
theorem nf1 : (Rows.rowsNormalRow.wf (OpenSpec.ofChange Rows.rowsNormalSpec)) = true := by kernel_rfl
theorem nf2 : (laidOutB Tryz.prog) = true := by kernel_rfl
theorem nf3 : (mapsRowed Tryz.prog) = true := by kernel_rfl
theorem nf4 : (Tryz.f3.params.all (Tryz.prog.readableRec ·)) = true := by kernel_rfl
theorem nf5 : (namedTie Tryz.prog Rows.rowsNormalRow.named Rows.rowsNormalSpec.vars) = true := by kernel_rfl
theorem nf6 : (Rows.rowsNormalRow.stops == []) = true := by kernel_rfl
theorem nf7 : (Tryz.prog.stops == []) = true := by kernel_rfl
theorem nf8 : (Rows.rowsNormalRow.knobs == []) = true := by kernel_rfl
theorem nf9 : (Tryz.prog.stopKnobs == []) = true := by kernel_rfl
theorem nf10 : (Rows.rowsNormalRow.inPlace == Tryz.prog.inPlace 3) = true := by kernel_rfl
theorem nf11 : (Rows.rowsNormalRow.unfollowed == Tryz.prog.unfollowed 3) = true := by kernel_rfl
theorem nf12 : (Rows.rowsNormalRow.recurses == Tryz.prog.recurses 3) = true := by kernel_rfl
theorem nf13 : (Rows.rowsNormalRow.named == Tryz.prog.varsNamed 3) = true := by kernel_rfl
theorem nf14 : (Rows.rowsNormalRow.maps == (Tryz.f3.params.toList ++ Rows.rowsNormalSpec.plain.varTypes Tryz.prog).any (Tryz.prog.mapsRec ·)) = true := by kernel_rfl
theorem nf15 : (Rows.rowsNormalRow.ifaces == (Tryz.f3.params.toList ++ Rows.rowsNormalSpec.plain.varTypes Tryz.prog).any (Tryz.prog.ifacesRec ·)) = true := by kernel_rfl
theorem nf16 : (Rows.rowsNormalRow.mapsOut == Tryz.prog.mapsAmong Tryz.f3.resultTypes.toList) = true := by kernel_rfl
theorem nf17 : (Rows.rowsNormalRow.loops == (Tryz.f3.params.toList ++ Rows.rowsNormalSpec.plain.varTypes Tryz.prog).any (Tryz.prog.loopsFrom ·)) = true := by kernel_rfl
theorem nf18 : (Rows.rowsNormalRow.wideKeys == (Tryz.f3.params.toList ++ Rows.rowsNormalSpec.plain.varTypes Tryz.prog ++ Tryz.f3.resultTypes.toList).any (Tryz.prog.wideKeysFrom ·)) = true := by kernel_rfl
theorem nf19 : (Rows.rowsNormalSpec.vars.all (Tryz.prog.varReadable ·)) = true := by kernel_rfl
theorem nf20 : (Tryz.f3.resultTypes.all (fun t => Tryz.prog.readableRec t && decide (t < Tryz.prog.types.size))) = true := by kernel_rfl
theorem nf21 : (Rows.rowsNormalRow.ifacesOut == Tryz.f3.resultTypes.toList.any (Tryz.prog.ifacesRec ·)) = true := by kernel_rfl
theorem nf22 : (Rows.rowsNormalRow.loopsOut == Tryz.f3.resultTypes.toList.any (Tryz.prog.loopsFrom ·)) = true := by kernel_rfl
theorem nf23 : (Rows.rowsNormalRow.plainKeys == Tryz.prog.plainKeys) = true := by kernel_rfl
theorem nf24 : (Rows.rowsNormalRow.shortTexts.isNone) = true := by kernel_rfl
theorem nf25 : (Tryz.prog.stopsHeard) = true := by kernel_rfl
theorem nf26 : (Tryz.prog.mayEnter) = true := by kernel_rfl
theorem nf27 : (Rows.rowsNormalRow.lifted == Tryz.prog.liftsFinal) = true := by kernel_rfl
theorem nf28 : (Tryz.prog.make == some Rows.rowsNormalRow.make) = true := by kernel_rfl
theorem nf30 : (Rows.rowsNormalRow.pinned == Rows.rowsNormalRow.pinnedBy) = true := by kernel_rfl
theorem nf31 : (Rows.rowsNormalRow.veiled == (Tryz.f3.params.toList ++ Rows.rowsNormalSpec.plain.varTypes Tryz.prog ++ Tryz.f3.resultTypes.toList).any (Tryz.prog.veiledRec ·)) = true := by kernel_rfl
theorem nf32 : (Rows.rowsNormalRow.veiledFits Tryz.prog Tryz.f3.params.toList (Tryz.f3.params.toList ++ Rows.rowsNormalSpec.plain.varTypes Tryz.prog ++ Tryz.f3.resultTypes.toList)) = true := by kernel_rfl
theorem nfs : joinedFacts Tryz.prog 3 Tryz.f3 Rows.rowsNormalSpec Rows.rowsNormalRow = true := by
  unfold joinedFacts
  exact and_t (and_t (and_t (and_t (and_t (and_t (and_t (and_t (and_t (and_t (and_t (and_t (and_t (and_t (and_t (and_t (and_t (and_t (and_t (and_t (and_t (and_t (and_t (and_t (and_t (and_t (and_t (and_t (and_t (and_t (and_t (nf1) nf2) nf3) nf4) nf5) nf6) nf7) nf8) nf9) nf10) nf11) nf12) nf13) nf14) nf15) nf16) nf17) nf18) nf19) nf20) nf21) nf22) nf23) nf24) nf25) nf26) nf27) nf28) (by kernel_rfl)) nf30) nf31) nf32
end Go.Proofs.YtochcofoknfjfaaGreatDoor
