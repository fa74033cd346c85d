/- The plain law of ConeHas: errors, points. Walks: exact.Reduced of no rows, exact.Cleared by no rows. -/
import Derived.Test.YtggoncneinlpgaaGreatDoorDC
import Derived.Test.YtggoncneinlpgaaGreatDoorH12
import Derived.Test.YtggoncneinlpgaaGreatDoorH5
namespace Go.Proofs.YtggoncneinlpgaaGreatDoor
open Go Go.RowKit Nt

/-- The number of a cone's error. -/
def coneErr (dim : Int) (m : List (List Int)) : Int := if dim < 0 ∨ 6 < dim ∨ 24 < m.length then 2 else if m.any (fun r => (r.length : Int) != dim) then 3 else if m.any largeB then 2 else 0
theorem coneErr_cases (dim : Int) (m : List (List Int)) : coneErr dim m = 0 ∨ coneErr dim m = 2 ∨ coneErr dim m = 3 := by
  unfold coneErr
  split
  · exact .inr (.inl rfl)
  · split
    · exact .inr (.inr rfl)
    · split
      · exact .inr (.inl rfl)
      · exact .inl rfl
theorem coneErr_zero {dim : Int} {m : List (List Int)} (h : coneErr dim m = 0) : 0 ≤ dim ∧ dim ≤ 6 ∧ m.length ≤ 24 ∧ (∀ r ∈ m, (r.length : Int) = dim) ∧ ∀ r ∈ m, largeB r = false := by
  unfold coneErr at h
  split at h
  · simp at h
  · next h1 =>
    split at h
    · simp at h
    · next h2 =>
      split at h
      · simp at h
      · next h3 =>
        refine ⟨by omega, by omega, by omega, fun r hr => ?_, fun r hr => ?_⟩
        · rw [Bool.not_eq_true, List.any_eq_false] at h2
          simpa using h2 r hr
        · rw [Bool.not_eq_true, List.any_eq_false] at h3
          simpa using h3 r hr
/-- The number of the error that Has tells. -/
def hasErr (dim : Int) (up even : List (List Int)) (x : List Int) : Int :=
  if coneErr dim (up ++ even) ≠ 0 then coneErr dim (up ++ even) else if (x.length : Int) ≠ dim then 3 else if largeB x = true then 2 else 0
/-- Is the point of the cone? -/
def hasB (up even : List (List Int)) (x : List Int) : Bool := up.all (fun r => decide (0 ≤ dotZ r x)) && even.all (fun r => decide (dotZ r x = 0))
end Go.Proofs.YtggoncneinlpgaaGreatDoor
namespace Go.Proofs.YtggoncneinlpgaaGreatDoor
open Go Go.RowKit Nt

set_option maxRecDepth 100000 in
set_option maxHeartbeats 1000000 in
theorem reduced_nil (w : World) : Calls Tryz.prog 53 #[.slice none 0 0] w fun e w' => e = .returned (.slice none 0 0) ∧ w = w' := by
  go_enter Tryz.func53, Tryz.ntmps53
  go_wp2_with fail
  refine wp_loop_rounds 1 ?_
  rw [rounds_succ]
  go_wp2_with fail
  go_ret
  exact ⟨rfl, rfl⟩

set_option maxRecDepth 100000 in
set_option maxHeartbeats 1000000 in
theorem cleared_nil (v : Value) (zs : List Int) (B0 : Nat) (w : World) (hv : RowAt w B0 v zs) (hB0 : B0 ≤ w.heap.size) (h1 : One zs) (hl : zs.length ≤ 1000000) : Calls Tryz.prog 54 #[v, .slice none 0 0] w (RowRes w B0 (normZ zs)) := by
  have HN := Lib.hid (normal_any v zs B0 w hv hB0 h1 hl)
  obtain ⟨ps, hp⟩ := hv
  obtain ⟨o, cap, rfl, _, _⟩ := hp.form
  clear hp
  go_enter Tryz.func54, Tryz.ntmps54
  go_wp2_with fail
  refine wp_loop_rounds 1 ?_
  rw [rounds_succ]
  go_wp2_with fail
  refine HN.out.mono ?_
  rintro e w1 ⟨u, rfl, hu, hb⟩
  have HU := Lib.hid hu
  have HB := Lib.hid hb
  clear hu hb
  go_wp2_with fail
  go_ret
  exact ⟨_, rfl, HU.out, HB.out⟩
end Go.Proofs.YtggoncneinlpgaaGreatDoor
