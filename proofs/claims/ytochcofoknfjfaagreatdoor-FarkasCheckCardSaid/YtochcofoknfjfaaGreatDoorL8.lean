/- The law FarkasCheck as the row asks it: whatever the polyhedron, the row and the proof are, it returns true and its arguments read as they did. -/
import Derived.Test.YtochcofoknfjfaaGreatDoorL67
import Derived.Test.YtochcofoknfjfaaGreatDoorQ4
import Derived.Carry
namespace Go.Proofs.YtochcofoknfjfaaGreatDoor
open Go Go.ChangeShapes Go.WideShapes Go.ChangeAt Go.RowKit

set_option maxRecDepth 100000 in
theorem check_door_met (os : Os) (args : Array Value) : laidMetH Tryz.prog Rows.farkasCheckRow.laid ((World.doorLaid Tryz.prog 400 os).forCall (fun _ _ => 0) ⟨#[], args, []⟩).memory :=
  laidMetH_of_parts3 (fuel := 8) (laidMet_of_run' 8 (by kernel_rfl) (by kernel_rfl)) (by kernel_rfl) (by kernel_rfl)

theorem sents_check : List.Sublist sents (Rows.farkasCheckRow.laid.filter (fun x => x.2.handleName?.isNone)) := by
  have e : Rows.farkasCheckRow.laid.filter (fun x => x.2.handleName?.isNone) = (Rows.farkasCheckRow.laid.take 2 ++ sents) ++ Rows.farkasCheckRow.laid.drop 11 := by rfl
  rw [e]
  exact (List.sublist_append_right _ _).trans (List.sublist_append_left _ _)

theorem readP : Tryz.prog.readableRec 29 = true := by kernel_rfl
theorem rowP' : 29 < Tryz.prog.types.size := of_decide_eq_true (by kernel_rfl)
theorem readR : Tryz.prog.readableRec 31 = true := by kernel_rfl
theorem rowR' : 31 < Tryz.prog.types.size := of_decide_eq_true (by kernel_rfl)

set_option maxRecDepth 100000 in
theorem check_lifted (os : Os) (started : os.Started) (H : Type) (enc : TypeId × Value → H) :
    ReturnsInHanded {} Tryz.checked os 4 .any (fun w args => (Rows.farkasCheckSpec.pre enc Tryz.prog Tryz.f4 [] false w args ∧ laidMetH Tryz.prog Rows.farkasCheckRow.laid w) ∧ sizedMet enc Tryz.prog Tryz.f4 (OpenSpec.ofChange Rows.farkasCheckSpec) false w args)
      (Rows.farkasCheckSpec.post enc Tryz.prog Tryz.f4 false true false false) := by
  refine returnsInHanded_of_change_and (C := Tryz.checked) (X := fun w _ => laidMetH Tryz.prog Rows.farkasCheckRow.laid w) (fun _ _ _ hh h => h.of_heap hh) own started (by kernel_rfl) Tryz.func4
    (ChangeSpec.witness_shaped (enc := enc) (C := Tryz.checked) (os := os) (X := fun w _ => laidMetH Tryz.prog Rows.farkasCheckRow.laid w) false (World.doorLaid Tryz.prog 400 os) #[.agg #[.int .i64 0, .slice none 0 0], .agg #[.bool false, .slice none 0 0, .int .i64 0], .slice none 0 0, .int .i64 0] 8 rfl (World.shaped_of_RefB (by kernel_rfl) (by kernel_rfl)) (by kernel_rfl) (by kernel_rfl) (by kernel_rfl) (check_door_met os _)) ?_
  intro W base args ds gs before hval0 hW _ hsz0 hL _
  have hval : ∀ (j : Nat) t v, Tryz.f4.params[j]? = some t → args[j]? = some v → Value.okWide Tryz.prog W .any base t v := hval0
  have hsz : (DataW.weightsEach Tryz.prog (Tryz.f4.params.toList ++ Rows.farkasCheckSpec.plain.varTypes Tryz.prog) (ds ++ gs)).all (· ≤ reachBytes) = true := hsz0
  have hW' := hW
  obtain ⟨p, q, hA0, hV, rfl, hfz, hnd⟩ := hW
  have hA : DataW.TrodAll enc Tryz.prog W 0 (fun _ => true) true Tryz.f4.params.toList args.toList ds p := hA0
  rw [Tryz.params4] at hA hval hsz
  obtain ⟨v0, v1, v2, v3, d0, d1, d2, d3, p0, p1, p2, p3, rfl, rfl, rfl, h0, h1, h2, h3⟩ := trodAll_four hA
  obtain ⟨rfl, rfl⟩ := trodVars_none hV
  clear hA0 hval0 hsz0
  obtain ⟨den, rfl, rfl, rfl, wd⟩ := open_int Tryz.underlying3 (hval 3 3 v3 rfl rfl) h3
  simp only [List.append_nil] at hW'
  have hlt : ∀ x ∈ p0 ++ p1 ++ p2, x.block < W.heap.size := fun x hx => by simpa using hW'.lt x hx
  have hlt0 : ∀ x ∈ p0, x.block < W.heap.size := fun x hx => hlt x (List.mem_append_left _ (List.mem_append_left _ hx))
  have hlt1 : ∀ x ∈ p1, x.block < W.heap.size := fun x hx => hlt x (List.mem_append_left _ (List.mem_append_right _ hx))
  have hlt2 : ∀ x ∈ p2, x.block < W.heap.size := fun x hx => hlt x (List.mem_append_right _ hx)
  obtain ⟨dim, u, rs, rfl, hrs, hM⟩ := open_poly (hval 0 29 v0 rfl rfl) h0 hlt0
  obtain ⟨r, ru, rfl, hr⟩ := open_row (hval 1 31 v1 rfl rfl) h1 hlt1
  obtain ⟨⟨ws, hws, h64⟩, hargs2⟩ := open_arg (hval 2 22 v2 rfl rfl) h2 hlt2
  obtain ⟨hl, hM0⟩ := hM reachBytes (fun k hk => by
    have := List.all_eq_true.1 hsz k (DataW.weights_mem_each (j := 0) (t := 29) (d := d0) rfl rfl k hk)
    simpa using this)
  have hreach : reachBytes = 140737488351232 := rfl
  rw [hreach] at hl hM0
  obtain ⟨a, he⟩ := errW_of_laid hL (by simp [Rows.farkasCheckRow, Rows.laid_errors_errorType]) sents_check
  refine (law_check u ru v2 dim den rs r ws a W he hrs hr hws (by omega) (fun r hr => by have := hM0 r hr; omega) (wf64 wd).2 h64).mono fun e W' ⟨he, hb⟩ => ?_
  subst he
  exact ⟨_, rfl, _, _, _, [], _, [], hW', trodAll_mk1 (shut_bool Tryz.underlying4 _), trodAll_mk4 (Below.trod laidOut readP rowP' h0 hb hlt0) (Below.trod laidOut readR rowR' h1 hb hlt1) (hargs2 _ hb) (shut_int Tryz.underlying3 wd), rfl, hb.frame _, fun h => by cases h⟩
end Go.Proofs.YtochcofoknfjfaaGreatDoor
