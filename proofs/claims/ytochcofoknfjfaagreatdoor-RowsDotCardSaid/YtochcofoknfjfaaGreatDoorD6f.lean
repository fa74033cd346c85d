/- The closed facts of the row RowsDot, each by itself. -/
import Derived.Test.YtochcofoknfjfaaGreatDoorRows
import Derived.JoinedOf
namespace Go.Proofs.YtochcofoknfjfaaGreatDoor
open Go
theorem dfand_t {a b : Bool} (ha : a = true) (hb : b = true) : (a && b) = true := by rw [ha, hb]; rfl
set_option maxRecDepth 100000
theorem df1 : (Rows.rowsDotRow.wf (OpenSpec.ofChange Rows.rowsDotSpec)) = true := by kernel_rfl
theorem df2 : (laidOutB Tryz.prog) = true := by kernel_rfl
theorem df3 : (mapsRowed Tryz.prog) = true := by kernel_rfl
theorem df4 : (Tryz.f6.params.all (Tryz.prog.readableRec ·)) = true := by kernel_rfl
theorem df5 : (namedTie Tryz.prog Rows.rowsDotRow.named Rows.rowsDotSpec.vars) = true := by kernel_rfl
theorem df6 : (Rows.rowsDotRow.stops == []) = true := by kernel_rfl
theorem df7 : (Tryz.prog.stops == []) = true := by kernel_rfl
theorem df8 : (Rows.rowsDotRow.knobs == []) = true := by kernel_rfl
theorem df9 : (Tryz.prog.stopKnobs == []) = true := by kernel_rfl
theorem df10 : (Rows.rowsDotRow.inPlace == Tryz.prog.inPlace 6) = true := by kernel_rfl
theorem df11 : (Rows.rowsDotRow.unfollowed == Tryz.prog.unfollowed 6) = true := by kernel_rfl
theorem df12 : (Rows.rowsDotRow.recurses == Tryz.prog.recurses 6) = true := by kernel_rfl
theorem df13 : (Rows.rowsDotRow.named == Tryz.prog.varsNamed 6) = true := by kernel_rfl
theorem df14 : (Rows.rowsDotRow.maps == (Tryz.f6.params.toList ++ Rows.rowsDotSpec.plain.varTypes Tryz.prog).any (Tryz.prog.mapsRec ·)) = true := by kernel_rfl
theorem df15 : (Rows.rowsDotRow.ifaces == (Tryz.f6.params.toList ++ Rows.rowsDotSpec.plain.varTypes Tryz.prog).any (Tryz.prog.ifacesRec ·)) = true := by kernel_rfl
theorem df16 : (Rows.rowsDotRow.mapsOut == Tryz.prog.mapsAmong Tryz.f6.resultTypes.toList) = true := by kernel_rfl
theorem df17 : (Rows.rowsDotRow.loops == (Tryz.f6.params.toList ++ Rows.rowsDotSpec.plain.varTypes Tryz.prog).any (Tryz.prog.loopsFrom ·)) = true := by kernel_rfl
theorem df18 : (Rows.rowsDotRow.wideKeys == (Tryz.f6.params.toList ++ Rows.rowsDotSpec.plain.varTypes Tryz.prog ++ Tryz.f6.resultTypes.toList).any (Tryz.prog.wideKeysFrom ·)) = true := by kernel_rfl
theorem df19 : (Rows.rowsDotSpec.vars.all (Tryz.prog.varReadable ·)) = true := by kernel_rfl
theorem df20 : (Tryz.f6.resultTypes.all (fun t => Tryz.prog.readableRec t && decide (t < Tryz.prog.types.size))) = true := by kernel_rfl
theorem df21 : (Rows.rowsDotRow.ifacesOut == Tryz.f6.resultTypes.toList.any (Tryz.prog.ifacesRec ·)) = true := by kernel_rfl
theorem df22 : (Rows.rowsDotRow.loopsOut == Tryz.f6.resultTypes.toList.any (Tryz.prog.loopsFrom ·)) = true := by kernel_rfl
theorem df23 : (Rows.rowsDotRow.plainKeys == Tryz.prog.plainKeys) = true := by kernel_rfl
theorem df24 : (Rows.rowsDotRow.shortTexts.isNone) = true := by kernel_rfl
theorem df25 : (Tryz.prog.stopsHeard) = true := by kernel_rfl
theorem df26 : (Tryz.prog.mayEnter) = true := by kernel_rfl
theorem df27 : (Rows.rowsDotRow.lifted == Tryz.prog.liftsFinal) = true := by kernel_rfl
theorem df28 : (Tryz.prog.make == some Rows.rowsDotRow.make) = true := by kernel_rfl
theorem df30 : (Rows.rowsDotRow.pinned == Rows.rowsDotRow.pinnedBy) = true := by kernel_rfl
theorem df31 : (Rows.rowsDotRow.veiled == (Tryz.f6.params.toList ++ Rows.rowsDotSpec.plain.varTypes Tryz.prog ++ Tryz.f6.resultTypes.toList).any (Tryz.prog.veiledRec ·)) = true := by kernel_rfl
theorem df32 : (Rows.rowsDotRow.veiledFits Tryz.prog Tryz.f6.params.toList (Tryz.f6.params.toList ++ Rows.rowsDotSpec.plain.varTypes Tryz.prog ++ Tryz.f6.resultTypes.toList)) = true := by kernel_rfl
theorem dfs : joinedFacts Tryz.prog 6 Tryz.f6 Rows.rowsDotSpec Rows.rowsDotRow = true := by
  unfold joinedFacts
  exact dfand_t (dfand_t (dfand_t (dfand_t (dfand_t (dfand_t (dfand_t (dfand_t (dfand_t (dfand_t (dfand_t (dfand_t (dfand_t (dfand_t (dfand_t (dfand_t (dfand_t (dfand_t (dfand_t (dfand_t (dfand_t (dfand_t (dfand_t (dfand_t (dfand_t (dfand_t (dfand_t (dfand_t (dfand_t (dfand_t (dfand_t (df1) df2) df3) df4) df5) df6) df7) df8) df9) df10) df11) df12) df13) df14) df15) df16) df17) df18) df19) df20) df21) df22) df23) df24) df25) df26) df27) df28) (by kernel_rfl)) df30) df31) df32
end Go.Proofs.YtochcofoknfjfaaGreatDoor
