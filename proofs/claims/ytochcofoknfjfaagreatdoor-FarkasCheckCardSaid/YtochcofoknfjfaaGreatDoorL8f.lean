/- The closed facts of the row FarkasCheck, each by itself. -/
import Derived.Test.YtochcofoknfjfaaGreatDoorRows
import Derived.JoinedOf
namespace Go.Proofs.YtochcofoknfjfaaGreatDoor
open Go
theorem kfand_t {a b : Bool} (ha : a = true) (hb : b = true) : (a && b) = true := by rw [ha, hb]; rfl
set_option maxRecDepth 100000
theorem kf1 : (Rows.farkasCheckRow.wf (OpenSpec.ofChange Rows.farkasCheckSpec)) = true := by kernel_rfl
theorem kf2 : (laidOutB Tryz.prog) = true := by kernel_rfl
theorem kf3 : (mapsRowed Tryz.prog) = true := by kernel_rfl
theorem kf4 : (Tryz.f4.params.all (Tryz.prog.readableRec ·)) = true := by kernel_rfl
theorem kf5 : (namedTie Tryz.prog Rows.farkasCheckRow.named Rows.farkasCheckSpec.vars) = true := by kernel_rfl
theorem kf6 : (Rows.farkasCheckRow.stops == []) = true := by kernel_rfl
theorem kf7 : (Tryz.prog.stops == []) = true := by kernel_rfl
theorem kf8 : (Rows.farkasCheckRow.knobs == []) = true := by kernel_rfl
theorem kf9 : (Tryz.prog.stopKnobs == []) = true := by kernel_rfl
theorem kf10 : (Rows.farkasCheckRow.inPlace == Tryz.prog.inPlace 4) = true := by kernel_rfl
theorem kf11 : (Rows.farkasCheckRow.unfollowed == Tryz.prog.unfollowed 4) = true := by kernel_rfl
theorem kf12 : (Rows.farkasCheckRow.recurses == Tryz.prog.recurses 4) = true := by kernel_rfl
theorem kf13 : (Rows.farkasCheckRow.named == Tryz.prog.varsNamed 4) = true := by kernel_rfl
theorem kf14 : (Rows.farkasCheckRow.maps == (Tryz.f4.params.toList ++ Rows.farkasCheckSpec.plain.varTypes Tryz.prog).any (Tryz.prog.mapsRec ·)) = true := by kernel_rfl
theorem kf15 : (Rows.farkasCheckRow.ifaces == (Tryz.f4.params.toList ++ Rows.farkasCheckSpec.plain.varTypes Tryz.prog).any (Tryz.prog.ifacesRec ·)) = true := by kernel_rfl
theorem kf16 : (Rows.farkasCheckRow.mapsOut == Tryz.prog.mapsAmong Tryz.f4.resultTypes.toList) = true := by kernel_rfl
theorem kf17 : (Rows.farkasCheckRow.loops == (Tryz.f4.params.toList ++ Rows.farkasCheckSpec.plain.varTypes Tryz.prog).any (Tryz.prog.loopsFrom ·)) = true := by kernel_rfl
theorem kf18 : (Rows.farkasCheckRow.wideKeys == (Tryz.f4.params.toList ++ Rows.farkasCheckSpec.plain.varTypes Tryz.prog ++ Tryz.f4.resultTypes.toList).any (Tryz.prog.wideKeysFrom ·)) = true := by kernel_rfl
theorem kf19 : (Rows.farkasCheckSpec.vars.all (Tryz.prog.varReadable ·)) = true := by kernel_rfl
theorem kf20 : (Tryz.f4.resultTypes.all (fun t => Tryz.prog.readableRec t && decide (t < Tryz.prog.types.size))) = true := by kernel_rfl
theorem kf21 : (Rows.farkasCheckRow.ifacesOut == Tryz.f4.resultTypes.toList.any (Tryz.prog.ifacesRec ·)) = true := by kernel_rfl
theorem kf22 : (Rows.farkasCheckRow.loopsOut == Tryz.f4.resultTypes.toList.any (Tryz.prog.loopsFrom ·)) = true := by kernel_rfl
theorem kf23 : (Rows.farkasCheckRow.plainKeys == Tryz.prog.plainKeys) = true := by kernel_rfl
theorem kf24 : (Rows.farkasCheckRow.shortTexts.isNone) = true := by kernel_rfl
theorem kf25 : (Tryz.prog.stopsHeard) = true := by kernel_rfl
theorem kf26 : (Tryz.prog.mayEnter) = true := by kernel_rfl
theorem kf27 : (Rows.farkasCheckRow.lifted == Tryz.prog.liftsFinal) = true := by kernel_rfl
theorem kf28 : (Tryz.prog.make == some Rows.farkasCheckRow.make) = true := by kernel_rfl
theorem kf30 : (Rows.farkasCheckRow.pinned == Rows.farkasCheckRow.pinnedBy) = true := by kernel_rfl
theorem kf31 : (Rows.farkasCheckRow.veiled == (Tryz.f4.params.toList ++ Rows.farkasCheckSpec.plain.varTypes Tryz.prog ++ Tryz.f4.resultTypes.toList).any (Tryz.prog.veiledRec ·)) = true := by kernel_rfl
theorem kf32 : (Rows.farkasCheckRow.veiledFits Tryz.prog Tryz.f4.params.toList (Tryz.f4.params.toList ++ Rows.farkasCheckSpec.plain.varTypes Tryz.prog ++ Tryz.f4.resultTypes.toList)) = true := by kernel_rfl
theorem kfs : joinedFacts Tryz.prog 4 Tryz.f4 Rows.farkasCheckSpec Rows.farkasCheckRow = true := by
  unfold joinedFacts
  exact kfand_t (kfand_t (kfand_t (kfand_t (kfand_t (kfand_t (kfand_t (kfand_t (kfand_t (kfand_t (kfand_t (kfand_t (kfand_t (kfand_t (kfand_t (kfand_t (kfand_t (kfand_t (kfand_t (kfand_t (kfand_t (kfand_t (kfand_t (kfand_t (kfand_t (kfand_t (kfand_t (kfand_t (kfand_t (kfand_t (kfand_t (kf1) kf2) kf3) kf4) kf5) kf6) kf7) kf8) kf9) kf10) kf11) kf12) kf13) kf14) kf15) kf16) kf17) kf18) kf19) kf20) kf21) kf22) kf23) kf24) kf25) kf26) kf27) kf28) (by kernel_rfl)) kf30) kf31) kf32
end Go.Proofs.YtochcofoknfjfaaGreatDoor
