/- The law RowsCombine as the row asks it: whatever the rows are, it returns true and its arguments read as they did. -/
import Derived.Test.YtochcofoknfjfaaGreatDoorC4
import Derived.Test.YtochcofoknfjfaaGreatDoorQ1
import Derived.Carry
namespace Go.Proofs.YtochcofoknfjfaaGreatDoor
open Go Go.ChangeShapes Go.WideShapes Go.ChangeAt Go.RowKit

set_option maxRecDepth 100000 in
theorem comb_door_met (os : Os) (args : Array Value) : laidMetH Tryz.prog Rows.rowsCombineRow.laid ((World.doorLaid Tryz.prog 400 os).forCall (fun _ _ => 0) ⟨#[], args, []⟩).memory :=
  laidMetH_of_parts3 (fuel := 8) (laidMet_of_run' 8 (by kernel_rfl) (by kernel_rfl)) (by kernel_rfl) (by kernel_rfl)

theorem sents_comb : List.Sublist sents (Rows.rowsCombineRow.laid.filter (fun x => x.2.handleName?.isNone)) := by
  have e : Rows.rowsCombineRow.laid.filter (fun x => x.2.handleName?.isNone) = (Rows.rowsCombineRow.laid.take 2 ++ sents) ++ Rows.rowsCombineRow.laid.drop 11 := by rfl
  rw [e]
  exact (List.sublist_append_right _ _).trans (List.sublist_append_left _ _)

set_option maxRecDepth 100000 in
theorem comb_lifted (os : Os) (started : os.Started) (H : Type) (enc : TypeId × Value → H) :
    ReturnsInHanded {} Tryz.checked os 7 .any (fun w args => (Rows.rowsCombineSpec.pre enc Tryz.prog Tryz.f7 [] false w args ∧ laidMetH Tryz.prog Rows.rowsCombineRow.laid w) ∧ sizedMet enc Tryz.prog Tryz.f7 (OpenSpec.ofChange Rows.rowsCombineSpec) false w args)
      (Rows.rowsCombineSpec.post enc Tryz.prog Tryz.f7 false true false false) := by
  refine returnsInHanded_of_change_and (C := Tryz.checked) (X := fun w _ => laidMetH Tryz.prog Rows.rowsCombineRow.laid w) (fun _ _ _ hh h => h.of_heap hh) own started (by kernel_rfl) Tryz.func7
    (ChangeSpec.witness_shaped (enc := enc) (C := Tryz.checked) (os := os) (X := fun w _ => laidMetH Tryz.prog Rows.rowsCombineRow.laid w) false (World.doorLaid Tryz.prog 400 os) #[.slice none 0 0, .int .i64 0, .slice none 0 0, .int .i64 0] 8 rfl (World.shaped_of_RefB (by kernel_rfl) (by kernel_rfl)) (by kernel_rfl) (by kernel_rfl) (by kernel_rfl) (comb_door_met os _)) ?_
  intro W base args ds gs before hval0 hW _ _ hL _
  have hval : ∀ (j : Nat) t v, Tryz.f7.params[j]? = some t → args[j]? = some v → Value.okWide Tryz.prog W .any base t v := hval0
  have hW' := hW
  obtain ⟨p, q, hA0, hV, rfl, hfz, hnd⟩ := hW
  have hA : DataW.TrodAll enc Tryz.prog W 0 (fun _ => true) true Tryz.f7.params.toList args.toList ds p := hA0
  rw [Tryz.params7] at hA hval
  obtain ⟨v0, v1, v2, v3, d0, d1, d2, d3, p0, p1, p2, p3, rfl, rfl, rfl, h0, h1, h2, h3⟩ := trodAll_four hA
  obtain ⟨rfl, rfl⟩ := trodVars_none hV
  clear hA0 hval0
  obtain ⟨x, rfl, rfl, rfl, wx⟩ := open_int Tryz.underlying3 (hval 1 3 v1 rfl rfl) h1
  obtain ⟨y, rfl, rfl, rfl, wy⟩ := open_int Tryz.underlying3 (hval 3 3 v3 rfl rfl) h3
  simp only [List.append_nil] at hW'
  have hlt : ∀ x ∈ p0 ++ p2, x.block < W.heap.size := fun x hx => by simpa using hW'.lt x hx
  obtain ⟨⟨zs, hs, _⟩, hargs⟩ := open_arg (hval 0 22 v0 rfl rfl) h0 (fun x hx => hlt x (List.mem_append_left _ hx))
  obtain ⟨⟨ys, hys, _⟩, hargs1⟩ := open_arg (hval 2 22 v2 rfl rfl) h2 (fun x hx => hlt x (List.mem_append_right _ hx))
  obtain ⟨a, he⟩ := errW_of_laid hL (by simp [Rows.rowsCombineRow, Rows.laid_errors_errorType]) sents_comb
  refine (law_combine v0 v2 zs ys x y a W he hs hys).mono fun e W' ⟨he, hb⟩ => ?_
  subst he
  exact ⟨_, rfl, _, _, _, [], _, [], hW', trodAll_mk1 (shut_bool Tryz.underlying4 _), trodAll_mk4 (hargs _ hb) (shut_int Tryz.underlying3 wx) (hargs1 _ hb) (shut_int Tryz.underlying3 wy), rfl, hb.frame _, fun h => by cases h⟩
end Go.Proofs.YtochcofoknfjfaaGreatDoor
