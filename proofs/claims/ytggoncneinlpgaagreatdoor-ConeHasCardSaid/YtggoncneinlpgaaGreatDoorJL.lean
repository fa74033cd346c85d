/- The law ConeHas as the row asks it: whatever the number, the lists and the point are, it returns true and its arguments read as they did. Conditions: the row's own (calm, time passes, the listed variables), and what exact.Cone makes of the unit rows (ConeUnit), which is proved elsewhere. -/
import Derived.Test.YtggoncneinlpgaaGreatDoorJE
import Derived.Test.YtggoncneinlpgaaGreatDoorJD
import Derived.Test.YtggoncneinlpgaaGreatDoorQ6
import Derived.Carry
import Derived.Clock
namespace Go.Proofs.YtggoncneinlpgaaGreatDoor
open Go Go.ChangeShapes Go.WideShapes Go.ChangeAt Go.RowKit

set_option maxRecDepth 100000 in
theorem has_door_met (os : Os) (args : Array Value) : laidMetH Tryz.prog Rows.coneHasRow.laid ((World.doorLaid Tryz.prog 400 os).forCall (fun _ _ => 0) ⟨#[], args, []⟩).memory :=
  laidMetH_of_parts3 (fuel := 8) (laidMet_of_run' 8 (by kernel_rfl) (by kernel_rfl)) (by kernel_rfl) (by kernel_rfl)

theorem sents_has : List.Sublist sents (Rows.coneHasRow.laid.filter (fun x => x.2.handleName?.isNone)) := by
  have e : Rows.coneHasRow.laid.filter (fun x => x.2.handleName?.isNone) = (Rows.coneHasRow.laid.take 2 ++ sents) ++ Rows.coneHasRow.laid.drop 11 := by rfl
  rw [e]
  exact (List.sublist_append_right _ _).trans (List.sublist_append_left _ _)

theorem readM : Tryz.prog.readableRec 22 = true := by kernel_rfl
theorem rowM : 22 < Tryz.prog.types.size := of_decide_eq_true (by kernel_rfl)

set_option maxRecDepth 100000 in
theorem has_lifted (hcu : ConeUnit) (os : Os) (started : os.Started) (H : Type) (enc : TypeId × Value → H) (F : Stop.Interp) :
    ReturnsInHanded { calm := true } Tryz.checked os 3 .any (fun w args => (Rows.coneHasSpec.pre enc Tryz.prog Tryz.f3 [] false w args ∧ laidMetH Tryz.prog Rows.coneHasRow.laid w) ∧ sizedMet enc Tryz.prog Tryz.f3 (OpenSpec.ofChange Rows.coneHasSpec) false w args)
      ((OpenSpec.ofChange Rows.coneHasSpec).postWith enc Tryz.prog Tryz.f3 F (outsideKept [.timePasses]) false true false) := by
  refine Go.Clock.returns_of_change (C := Tryz.checked) (X := fun w _ => laidMetH Tryz.prog Rows.coneHasRow.laid w) (fun _ _ _ hh h => h.of_heap hh) own started (by kernel_rfl) Tryz.func3
    (Go.Clock.witness_at (enc := enc) (C := Tryz.checked) (os := os) (X := fun w _ => laidMetH Tryz.prog Rows.coneHasRow.laid w) (World.doorLaid Tryz.prog 400 os) #[.int .i64 0, .slice none 0 0, .slice none 0 0, .slice none 0 0] 8 rfl (World.shaped_of_RefB (by kernel_rfl) (by kernel_rfl)) (by kernel_rfl) (by kernel_rfl) (by kernel_rfl) (has_door_met os _)) ?_
  intro W base args ds gs before hval0 hW _ hsz0 hL _
  have hval : ∀ (j : Nat) t v, Tryz.f3.params[j]? = some t → args[j]? = some v → Value.okWide Tryz.prog W .any base t v := hval0
  have hsz : (DataW.weightsEach Tryz.prog (Tryz.f3.params.toList ++ Rows.coneHasSpec.plain.varTypes Tryz.prog) (ds ++ gs)).all (· ≤ reachBytes) = true := hsz0
  have hW' := hW
  obtain ⟨p, q, hA0, hV, rfl, hfz, hnd⟩ := hW
  have hA : DataW.TrodAll enc Tryz.prog W 0 (fun _ => true) true Tryz.f3.params.toList args.toList ds p := hA0
  rw [Tryz.params3] at hA hval hsz
  obtain ⟨v0, v1, v2, v3, d0, d1, d2, d3, p0, p1, p2, p3, rfl, rfl, rfl, h0, h1, h2, h3⟩ := trodAll_four hA
  obtain ⟨rfl, rfl⟩ := trodVars_none hV
  clear hA0 hval0 hsz0
  obtain ⟨dim, rfl, rfl, rfl, wd⟩ := open_int Tryz.underlying3 (hval 0 3 v0 rfl rfl) h0
  simp only [List.append_nil] at hW'
  have hlt : ∀ x ∈ p1 ++ p2 ++ p3, x.block < W.heap.size := fun x hx => by
    have := hW'.lt x (by simpa using hx)
    exact this
  have hlt1 : ∀ x ∈ p1, x.block < W.heap.size := fun x hx => hlt x (List.mem_append_left _ (List.mem_append_left _ hx))
  have hlt2 : ∀ x ∈ p2, x.block < W.heap.size := fun x hx => hlt x (List.mem_append_left _ (List.mem_append_right _ hx))
  have hlt3 : ∀ x ∈ p3, x.block < W.heap.size := fun x hx => hlt x (List.mem_append_right _ hx)
  obtain ⟨up, hup, hM1⟩ := open_mat (hval 1 22 v1 rfl rfl) h1 hlt1
  obtain ⟨ev, hev, hM2⟩ := open_mat (hval 2 22 v2 rfl rfl) h2 hlt2
  obtain ⟨⟨x, hx, _⟩, hargs3⟩ := open_arg (hval 3 23 v3 rfl rfl) h3 hlt3
  obtain ⟨hl1, hN1⟩ := hM1 reachBytes (fun k hk => by
    have := List.all_eq_true.1 hsz k (DataW.weights_mem_each (j := 1) (t := 22) (d := d1) rfl rfl k hk)
    simpa using this)
  obtain ⟨hl2, hN2⟩ := hM2 reachBytes (fun k hk => by
    have := List.all_eq_true.1 hsz k (DataW.weights_mem_each (j := 2) (t := 22) (d := d2) rfl rfl k hk)
    simpa using this)
  have hreach : reachBytes = 140737488351232 := rfl
  rw [hreach] at hl1 hN1 hl2 hN2
  obtain ⟨a, he⟩ := errW_of_laid hL (by simp [Rows.coneHasRow, Rows.laid_errors_errorType]) sents_has
  refine (law_has v1 v2 v3 dim up ev x a W he hup hev hx (corner_unit hcu a W he) (by omega) (by omega) (fun r hr => by
    rcases List.mem_append.1 hr with h | h
    · have := hN1 r h; omega
    · have := hN2 r h; omega)).mono fun e W' ⟨he, hb⟩ => ?_
  subst he
  have e2 : ({ W' with os := W.os } : World) = W' := by rw [← hb.os]
  refine ⟨_, rfl, ?_, by rw [hb.os]; exact Go.Clock.Later.refl _⟩
  rw [e2]
  exact ⟨_, _, _, [], _, [], hW', trodAll_mk1 (shut_bool Tryz.underlying4 _), trodAll_mk4 (shut_int Tryz.underlying3 wd) (Below.trod laidOut readM rowM h1 hb hlt1) (Below.trod laidOut readM rowM h2 hb hlt2) (hargs3 _ hb), rfl, hb.frame _, fun h => by cases h⟩
end Go.Proofs.YtggoncneinlpgaaGreatDoor
