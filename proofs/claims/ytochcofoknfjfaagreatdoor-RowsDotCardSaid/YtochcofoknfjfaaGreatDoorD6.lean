/- The law RowsDot as the row asks it: whatever the rows are, it returns true and its arguments read as they did. -/
import Derived.Test.YtochcofoknfjfaaGreatDoorD5
import Derived.Test.YtochcofoknfjfaaGreatDoorQ1
namespace Go.Proofs.YtochcofoknfjfaaGreatDoor
open Go Go.ChangeShapes Go.WideShapes Go.ChangeAt Go.RowKit

set_option maxRecDepth 100000 in
theorem dot_door_met (os : Os) (args : Array Value) : laidMetH Tryz.prog Rows.rowsDotRow.laid ((World.doorLaid Tryz.prog 400 os).forCall (fun _ _ => 0) ⟨#[], args, []⟩).memory :=
  laidMetH_of_parts3 (fuel := 8) (laidMet_of_run' 8 (by kernel_rfl) (by kernel_rfl)) (by kernel_rfl) (by kernel_rfl)

theorem sents_dot : List.Sublist sents (Rows.rowsDotRow.laid.filter (fun x => x.2.handleName?.isNone)) := by
  have e : Rows.rowsDotRow.laid.filter (fun x => x.2.handleName?.isNone) = (Rows.rowsDotRow.laid.take 2 ++ sents) ++ Rows.rowsDotRow.laid.drop 11 := by rfl
  rw [e]
  exact (List.sublist_append_right _ _).trans (List.sublist_append_left _ _)

set_option maxRecDepth 100000 in
theorem dot_lifted (os : Os) (started : os.Started) (H : Type) (enc : TypeId × Value → H) :
    ReturnsInHanded {} Tryz.checked os 6 .any (fun w args => (Rows.rowsDotSpec.pre enc Tryz.prog Tryz.f6 [] false w args ∧ laidMetH Tryz.prog Rows.rowsDotRow.laid w) ∧ sizedMet enc Tryz.prog Tryz.f6 (OpenSpec.ofChange Rows.rowsDotSpec) false w args)
      (Rows.rowsDotSpec.post enc Tryz.prog Tryz.f6 false true false false) := by
  refine returnsInHanded_of_change_and (C := Tryz.checked) (X := fun w _ => laidMetH Tryz.prog Rows.rowsDotRow.laid w) (fun _ _ _ hh h => h.of_heap hh) own started (by kernel_rfl) Tryz.func6
    (ChangeSpec.witness_shaped (enc := enc) (C := Tryz.checked) (os := os) (X := fun w _ => laidMetH Tryz.prog Rows.rowsDotRow.laid w) false (World.doorLaid Tryz.prog 400 os) #[.slice none 0 0, .slice none 0 0] 8 rfl (World.shaped_of_RefB (by kernel_rfl) (by kernel_rfl)) (by kernel_rfl) (by kernel_rfl) (by kernel_rfl) (dot_door_met os _)) ?_
  intro W base args ds gs before hval0 hW _ _ hL _
  have hval : ∀ (j : Nat) t v, Tryz.f6.params[j]? = some t → args[j]? = some v → Value.okWide Tryz.prog W .any base t v := hval0
  have hW' := hW
  obtain ⟨p, q, hA0, hV, rfl, hfz, hnd⟩ := hW
  have hA : DataW.TrodAll enc Tryz.prog W 0 (fun _ => true) true Tryz.f6.params.toList args.toList ds p := hA0
  rw [Tryz.params6] at hA hval
  obtain ⟨v0, v1, d0, d1, p0, p1, rfl, rfl, rfl, h0, h1⟩ := trodAll_two hA
  obtain ⟨rfl, rfl⟩ := trodVars_none hV
  clear hA0 hval0
  simp only [List.append_nil] at hW'
  have hlt : ∀ x ∈ p0 ++ p1, x.block < W.heap.size := fun x hx => by simpa using hW'.lt x hx
  obtain ⟨⟨zs, hs, _⟩, hargs⟩ := open_arg (hval 0 22 v0 rfl rfl) h0 (fun x hx => hlt x (List.mem_append_left _ hx))
  obtain ⟨⟨ys, hys, _⟩, hargs1⟩ := open_arg (hval 1 22 v1 rfl rfl) h1 (fun x hx => hlt x (List.mem_append_right _ hx))
  obtain ⟨a, he⟩ := errW_of_laid hL (by simp [Rows.rowsDotRow, Rows.laid_errors_errorType]) sents_dot
  refine (law_dot v0 v1 zs ys a W he hs hys).mono fun e W' ⟨he, hb⟩ => ?_
  subst he
  exact ⟨_, rfl, _, _, _, [], _, [], hW', trodAll_mk1 (shut_bool Tryz.underlying4 _), trodAll_mk2 (hargs _ hb) (hargs1 _ hb), rfl, hb.frame _, fun h => by cases h⟩
end Go.Proofs.YtochcofoknfjfaaGreatDoor
