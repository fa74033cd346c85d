/- The closed facts of the row RowsCombine, each by itself. -/
import Derived.Test.YtochcofoknfjfaaGreatDoorRows
import Derived.JoinedOf
namespace Go.Proofs.YtochcofoknfjfaaGreatDoor
open Go
theorem cfand_t {a b : Bool} (ha : a = true) (hb : b = true) : (a && b) = true := by rw [ha, hb]; rfl
set_option maxRecDepth 100000
theorem cf1 : (Rows.rowsCombineRow.wf (OpenSpec.ofChange Rows.rowsCombineSpec)) = true := by kernel_rfl
theorem cf2 : (laidOutB Tryz.prog) = true := by kernel_rfl
theorem cf3 : (mapsRowed Tryz.prog) = true := by kernel_rfl
theorem cf4 : (Tryz.f7.params.all (Tryz.prog.readableRec ·)) = true := by kernel_rfl
theorem cf5 : (namedTie Tryz.prog Rows.rowsCombineRow.named Rows.rowsCombineSpec.vars) = true := by kernel_rfl
theorem cf6 : (Rows.rowsCombineRow.stops == []) = true := by kernel_rfl
theorem cf7 : (Tryz.prog.stops == []) = true := by kernel_rfl
theorem cf8 : (Rows.rowsCombineRow.knobs == []) = true := by kernel_rfl
theorem cf9 : (Tryz.prog.stopKnobs == []) = true := by kernel_rfl
theorem cf10 : (Rows.rowsCombineRow.inPlace == Tryz.prog.inPlace 7) = true := by kernel_rfl
theorem cf11 : (Rows.rowsCombineRow.unfollowed == Tryz.prog.unfollowed 7) = true := by kernel_rfl
theorem cf12 : (Rows.rowsCombineRow.recurses == Tryz.prog.recurses 7) = true := by kernel_rfl
theorem cf13 : (Rows.rowsCombineRow.named == Tryz.prog.varsNamed 7) = true := by kernel_rfl
theorem cf14 : (Rows.rowsCombineRow.maps == (Tryz.f7.params.toList ++ Rows.rowsCombineSpec.plain.varTypes Tryz.prog).any (Tryz.prog.mapsRec ·)) = true := by kernel_rfl
theorem cf15 : (Rows.rowsCombineRow.ifaces == (Tryz.f7.params.toList ++ Rows.rowsCombineSpec.plain.varTypes Tryz.prog).any (Tryz.prog.ifacesRec ·)) = true := by kernel_rfl
theorem cf16 : (Rows.rowsCombineRow.mapsOut == Tryz.prog.mapsAmong Tryz.f7.resultTypes.toList) = true := by kernel_rfl
theorem cf17 : (Rows.rowsCombineRow.loops == (Tryz.f7.params.toList ++ Rows.rowsCombineSpec.plain.varTypes Tryz.prog).any (Tryz.prog.loopsFrom ·)) = true := by kernel_rfl
theorem cf18 : (Rows.rowsCombineRow.wideKeys == (Tryz.f7.params.toList ++ Rows.rowsCombineSpec.plain.varTypes Tryz.prog ++ Tryz.f7.resultTypes.toList).any (Tryz.prog.wideKeysFrom ·)) = true := by kernel_rfl
theorem cf19 : (Rows.rowsCombineSpec.vars.all (Tryz.prog.varReadable ·)) = true := by kernel_rfl
theorem cf20 : (Tryz.f7.resultTypes.all (fun t => Tryz.prog.readableRec t && decide (t < Tryz.prog.types.size))) = true := by kernel_rfl
theorem cf21 : (Rows.rowsCombineRow.ifacesOut == Tryz.f7.resultTypes.toList.any (Tryz.prog.ifacesRec ·)) = true := by kernel_rfl
theorem cf22 : (Rows.rowsCombineRow.loopsOut == Tryz.f7.resultTypes.toList.any (Tryz.prog.loopsFrom ·)) = true := by kernel_rfl
theorem cf23 : (Rows.rowsCombineRow.plainKeys == Tryz.prog.plainKeys) = true := by kernel_rfl
theorem cf24 : (Rows.rowsCombineRow.shortTexts.isNone) = true := by kernel_rfl
theorem cf25 : (Tryz.prog.stopsHeard) = true := by kernel_rfl
theorem cf26 : (Tryz.prog.mayEnter) = true := by kernel_rfl
theorem cf27 : (Rows.rowsCombineRow.lifted == Tryz.prog.liftsFinal) = true := by kernel_rfl
theorem cf28 : (Tryz.prog.make == some Rows.rowsCombineRow.make) = true := by kernel_rfl
theorem cf30 : (Rows.rowsCombineRow.pinned == Rows.rowsCombineRow.pinnedBy) = true := by kernel_rfl
theorem cf31 : (Rows.rowsCombineRow.veiled == (Tryz.f7.params.toList ++ Rows.rowsCombineSpec.plain.varTypes Tryz.prog ++ Tryz.f7.resultTypes.toList).any (Tryz.prog.veiledRec ·)) = true := by kernel_rfl
theorem cf32 : (Rows.rowsCombineRow.veiledFits Tryz.prog Tryz.f7.params.toList (Tryz.f7.params.toList ++ Rows.rowsCombineSpec.plain.varTypes Tryz.prog ++ Tryz.f7.resultTypes.toList)) = true := by kernel_rfl
theorem cfs : joinedFacts Tryz.prog 7 Tryz.f7 Rows.rowsCombineSpec Rows.rowsCombineRow = true := by
  unfold joinedFacts
  exact cfand_t (cfand_t (cfand_t (cfand_t (cfand_t (cfand_t (cfand_t (cfand_t (cfand_t (cfand_t (cfand_t (cfand_t (cfand_t (cfand_t (cfand_t (cfand_t (cfand_t (cfand_t (cfand_t (cfand_t (cfand_t (cfand_t (cfand_t (cfand_t (cfand_t (cfand_t (cfand_t (cfand_t (cfand_t (cfand_t (cfand_t (cf1) cf2) cf3) cf4) cf5) cf6) cf7) cf8) cf9) cf10) cf11) cf12) cf13) cf14) cf15) cf16) cf17) cf18) cf19) cf20) cf21) cf22) cf23) cf24) cf25) cf26) cf27) cf28) (by kernel_rfl)) cf30) cf31) cf32
end Go.Proofs.YtochcofoknfjfaaGreatDoor
