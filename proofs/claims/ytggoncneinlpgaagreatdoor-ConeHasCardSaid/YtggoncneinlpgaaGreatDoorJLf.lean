/- The closed facts of the row ConeHas, each by itself. -/
import Derived.Test.YtggoncneinlpgaaGreatDoorRows
import Derived.JoinedOf
namespace Go.Proofs.YtggoncneinlpgaaGreatDoor
open Go
theorem hfand_t {a b : Bool} (ha : a = true) (hb : b = true) : (a && b) = true := by rw [ha, hb]; rfl
set_option maxRecDepth 100000
theorem hf1 : (Rows.coneHasRow.wf (OpenSpec.ofChange Rows.coneHasSpec)) = true := by kernel_rfl
theorem hf2 : (laidOutB Tryz.prog) = true := by kernel_rfl
theorem hf3 : (mapsRowed Tryz.prog) = true := by kernel_rfl
theorem hf4 : (Tryz.f3.params.all (Tryz.prog.readableRec ·)) = true := by kernel_rfl
theorem hf5 : (namedTie Tryz.prog Rows.coneHasRow.named Rows.coneHasSpec.vars) = true := by kernel_rfl
theorem hf6 : (Rows.coneHasRow.stops == []) = true := by kernel_rfl
theorem hf7 : (Tryz.prog.stops == []) = true := by kernel_rfl
theorem hf8 : (Rows.coneHasRow.knobs == []) = true := by kernel_rfl
theorem hf9 : (Tryz.prog.stopKnobs == []) = true := by kernel_rfl
theorem hf10 : (Rows.coneHasRow.inPlace == Tryz.prog.inPlace 3) = true := by kernel_rfl
theorem hf11 : (Rows.coneHasRow.unfollowed == Tryz.prog.unfollowed 3) = true := by kernel_rfl
theorem hf12 : (Rows.coneHasRow.recurses == Tryz.prog.recurses 3) = true := by kernel_rfl
theorem hf13 : (Rows.coneHasRow.named == Tryz.prog.varsNamed 3) = true := by kernel_rfl
theorem hf14 : (Rows.coneHasRow.maps == (Tryz.f3.params.toList ++ Rows.coneHasSpec.plain.varTypes Tryz.prog).any (Tryz.prog.mapsRec ·)) = true := by kernel_rfl
theorem hf15 : (Rows.coneHasRow.ifaces == (Tryz.f3.params.toList ++ Rows.coneHasSpec.plain.varTypes Tryz.prog).any (Tryz.prog.ifacesRec ·)) = true := by kernel_rfl
theorem hf16 : (Rows.coneHasRow.mapsOut == Tryz.prog.mapsAmong Tryz.f3.resultTypes.toList) = true := by kernel_rfl
theorem hf17 : (Rows.coneHasRow.loops == (Tryz.f3.params.toList ++ Rows.coneHasSpec.plain.varTypes Tryz.prog).any (Tryz.prog.loopsFrom ·)) = true := by kernel_rfl
theorem hf18 : (Rows.coneHasRow.wideKeys == (Tryz.f3.params.toList ++ Rows.coneHasSpec.plain.varTypes Tryz.prog ++ Tryz.f3.resultTypes.toList).any (Tryz.prog.wideKeysFrom ·)) = true := by kernel_rfl
theorem hf19 : (Rows.coneHasSpec.vars.all (Tryz.prog.varReadable ·)) = true := by kernel_rfl
theorem hf20 : (Tryz.f3.resultTypes.all (fun t => Tryz.prog.readableRec t && decide (t < Tryz.prog.types.size))) = true := by kernel_rfl
theorem hf21 : (Rows.coneHasRow.ifacesOut == Tryz.f3.resultTypes.toList.any (Tryz.prog.ifacesRec ·)) = true := by kernel_rfl
theorem hf22 : (Rows.coneHasRow.loopsOut == Tryz.f3.resultTypes.toList.any (Tryz.prog.loopsFrom ·)) = true := by kernel_rfl
theorem hf23 : (Rows.coneHasRow.plainKeys == Tryz.prog.plainKeys) = true := by kernel_rfl
theorem hf24 : (Rows.coneHasRow.shortTexts.isNone) = true := by kernel_rfl
theorem hf25 : (Tryz.prog.stopsHeard) = true := by kernel_rfl
theorem hf26 : (Tryz.prog.mayEnter) = true := by kernel_rfl
theorem hf27 : (Rows.coneHasRow.lifted == Tryz.prog.liftsFinal) = true := by kernel_rfl
theorem hf28 : (Tryz.prog.make == some Rows.coneHasRow.make) = true := by kernel_rfl
theorem hf30 : (Rows.coneHasRow.pinned == Rows.coneHasRow.pinnedBy) = true := by kernel_rfl
theorem hf31 : (Rows.coneHasRow.veiled == (Tryz.f3.params.toList ++ Rows.coneHasSpec.plain.varTypes Tryz.prog ++ Tryz.f3.resultTypes.toList).any (Tryz.prog.veiledRec ·)) = true := by kernel_rfl
theorem hf32 : (Rows.coneHasRow.veiledFits Tryz.prog Tryz.f3.params.toList (Tryz.f3.params.toList ++ Rows.coneHasSpec.plain.varTypes Tryz.prog ++ Tryz.f3.resultTypes.toList)) = true := by kernel_rfl
theorem hfs : joinedFacts Tryz.prog 3 Tryz.f3 Rows.coneHasSpec Rows.coneHasRow = true := by
  unfold joinedFacts
  exact hfand_t (hfand_t (hfand_t (hfand_t (hfand_t (hfand_t (hfand_t (hfand_t (hfand_t (hfand_t (hfand_t (hfand_t (hfand_t (hfand_t (hfand_t (hfand_t (hfand_t (hfand_t (hfand_t (hfand_t (hfand_t (hfand_t (hfand_t (hfand_t (hfand_t (hfand_t (hfand_t (hfand_t (hfand_t (hfand_t (hfand_t (hf1) hf2) hf3) hf4) hf5) hf6) hf7) hf8) hf9) hf10) hf11) hf12) hf13) hf14) hf15) hf16) hf17) hf18) hf19) hf20) hf21) hf22) hf23) hf24) hf25) hf26) hf27) hf28) (by kernel_rfl)) hf30) hf31) hf32
end Go.Proofs.YtggoncneinlpgaaGreatDoor
