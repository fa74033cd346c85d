/- Walks: halves, the law RowsNormal. -/
import Derived.Test.YtochcofoknfjfaaGreatDoorR3
namespace Go.Proofs.YtochcofoknfjfaaGreatDoor
open Go Go.RowKit Nt

set_option maxRecDepth 100000 in
set_option maxHeartbeats 1000000 in
theorem halves_any (w : World) : Calls Tryz.prog 8 #[] w fun e w' => e = .returned (.bool true) ∧ Below w.heap.size w w' := by
  go_enter Tryz.func8, Tryz.ntmps8
  go_wp2_with fail
  have h1 : SliceI (w.alloc (.cells #[.int .i64 4, .int .i64 6] 3)) (.slice (some ⟨w.heap.size, 0, none⟩) 2 2) [4, 6] :=
    ⟨_, 2, rfl, fun _ => ⟨_, 0, rfl, by simp, fun i hi => by
      match i, hi with
      | 0, _ => exact (Blk.new w _ _).cell 0
      | 1, _ => exact (Blk.new w _ _).cell 1⟩⟩
  refine (rowsNormal_any _ _ _ h1 (by intro z hz; simp at hz; omega) (by decide)).mono ?_
  rintro e w1 ⟨u, rfl, hu, hb1⟩
  have hb : Below w.heap.size w w1 := ((Below.refl _ _).alloc (Nat.le_refl _) _).trans (hb1.mono (by simp))
  rw [show normZ [4, 6] = [2, 3] by decide] at hu
  clear h1 hb1
  go_wp2_with fail
  have hu2 := hu.below (B1 := w1.heap.size) ((Below.refl _ _).alloc (Nat.le_refl _) (.cells #[.int .i64 2, .int .i64 3] 3)) (Nat.le_refl _)
  have h2 : SliceI (w1.alloc (.cells #[.int .i64 2, .int .i64 3] 3)) (.slice (some ⟨w1.heap.size, 0, none⟩) 2 2) [2, 3] :=
    ⟨_, 2, rfl, fun _ => ⟨_, 0, rfl, by simp, fun i hi => by
      match i, hi with
      | 0, _ => exact (Blk.new w1 _ _).cell 0
      | 1, _ => exact (Blk.new w1 _ _).cell 1⟩⟩
  refine (rsame_any _ _ _ _ _ hu2 h2 (by decide)).mono ?_
  rintro e w2 ⟨rfl, q, rfl⟩
  go_wp2
  go_ret
  exact ⟨rfl, below_drewN' (hb.alloc hb.size _) q⟩

set_option maxRecDepth 100000 in
set_option maxHeartbeats 1000000 in
theorem law_normal (v : Value) (zs : List Int) (w : World) (hv : SliceI w v zs) :
    Calls Tryz.prog 3 #[v] w fun e w' => e = .returned (.bool true) ∧ Below w.heap.size w w' := by
  have HV := Lib.hid hv
  obtain ⟨o, cap, rfl, hc⟩ := hv
  obtain ⟨n, hn⟩ : ∃ n, zs.length = n := ⟨_, rfl⟩
  have HN := Lib.hid hn
  rw [hn] at HV ⊢
  clear hn hc
  have HF : largeB zs = false → Hid (Fit zs) := fun h => by
    intro z hz
    unfold largeB at h
    rw [List.any_eq_false] at h
    have := h z hz
    unfold bigB at this
    simp at this
    omega
  by_cases hn : 400 < (n : Int)
  · go_enter Tryz.func3, Tryz.ntmps3
    go_wp2_with fail
    refine (halves_any w).mono ?_
    rintro e w1 ⟨rfl, hb1⟩
    go_wp2_with fail
    go_ret
    exact ⟨rfl, hb1⟩
  · have hl : n ≤ 1000000 := by omega
    by_cases hlg : largeB zs = true
    · go_enter Tryz.func3, Tryz.ntmps3
      go_wp2_with fail
      refine (halves_any w).mono ?_
      rintro e w1 ⟨rfl, hb1⟩
      have HL := Lib.hid (rlarge_any _ zs w1 (HV.out.below hb1 (Nat.le_refl _)) (by have := HN.out; omega))
      rw [hlg] at HL
      go_wp2_with fail
      refine HL.out.mono ?_
      rintro e w2 ⟨rfl, rfl⟩
      go_wp2_with fail
      go_ret
      exact ⟨rfl, hb1⟩
    · have hlg' : largeB zs = false := by simpa using hlg
      have hfit := (HF hlg').out
      have HE := Lib.hid (refN_eq zs)
      clear hlg HF
      go_enter Tryz.func3, Tryz.ntmps3
      go_wp2_with fail
      refine (halves_any w).mono ?_
      rintro e w1 ⟨rfl, hb1⟩
      have HS1 := Lib.hid (HV.out.below hb1 (Nat.le_refl _))
      have HL := Lib.hid (rlarge_any _ zs w1 HS1.out (by have := HN.out; omega))
      rw [hlg'] at HL
      go_wp2_with fail
      refine HL.out.mono ?_
      rintro e w2 ⟨rfl, rfl⟩
      go_wp2_with fail
      refine (ints_any _ zs w2 HS1.out (by have := HN.out; omega)).mono ?_
      rintro e w3 ⟨u3, rfl, hu3, hb3⟩
      have hb03 := hb1.trans (hb3.mono hb1.size)
      go_wp2_with fail
      refine (rowsNormal_any u3 zs w3 hu3 hfit (by have := HN.out; omega)).mono ?_
      rintro e w4 ⟨u4, rfl, hu4, hb4⟩
      have hb04 := hb03.trans (hb4.mono hb03.size)
      have HS4 := Lib.hid (HV.out.below hb04 (Nat.le_refl _))
      clear hu3 hb3 hb03 HS1 HL
      go_wp2_with fail
      refine (rnormal_any _ zs w4 HS4.out hfit (by have := HN.out; omega)).mono ?_
      rintro e w5 ⟨u5, rfl, hu5, hb5⟩
      have hb05 := hb04.trans (hb5.mono hb04.size)
      have hu4' := hu4.below hb5 (Nat.le_refl _)
      rw [HE.out] at hu5
      clear hu4 HS4 hb4 hb04
      go_wp2_with fail
      refine (rsame_any _ _ _ _ w5 hu4' hu5 ?_).mono ?_
      · have h := HN.out
        rw [← HE.out, refN, List.length_map, h]
        omega
      rintro e w6 ⟨rfl, q, rfl⟩
      go_wp2_with fail
      go_ret
      exact ⟨by simp, below_drewN' hb05 q⟩
end Go.Proofs.YtochcofoknfjfaaGreatDoor
