/- Walk: Int.Quo at one word. -/
import Derived.Test.YtggoncneinlpgaaGreatDoorW456
import Derived.Deep.DeepCutAuto
namespace Go.Proofs.YtggoncneinlpgaaGreatDoor
open Go Go.RowKit Nt

theorem natAbs_tdiv' (x y : Int) : (x.tdiv y).natAbs = x.natAbs / y.natAbs := Int.natAbs_tdiv x y

theorem tdiv_neg_iff (x y : Int) (_hy : y ≠ 0) (hq : x.natAbs / y.natAbs ≠ 0) : decide (x.tdiv y < 0) = (decide (x < 0) != decide (y < 0)) := by
  have h := natAbs_tdiv' x y
  by_cases hx : x < 0 <;> by_cases hy' : y < 0
  · have : 0 ≤ x.tdiv y := by
      have e : x = -(-x) := by omega
      have e' : y = -(-y) := by omega
      rw [e, e', Int.neg_tdiv, Int.tdiv_neg, Int.neg_neg]
      exact Int.tdiv_nonneg (by omega) (by omega)
    simp [hx, hy']; omega
  · have : x.tdiv y ≤ 0 := by
      have e : x = -(-x) := by omega
      rw [e, Int.neg_tdiv]
      have := Int.tdiv_nonneg (a := -x) (b := y) (by omega) (by omega)
      omega
    have : x.tdiv y < 0 := by omega
    simp [hx, hy', this]
  · have : x.tdiv y ≤ 0 := by
      have e : y = -(-y) := by omega
      rw [e, Int.tdiv_neg]
      have := Int.tdiv_nonneg (a := x) (b := -y) (by omega) (by omega)
      omega
    have : x.tdiv y < 0 := by omega
    simp [hx, hy', this]
  · have := Int.tdiv_nonneg (a := x) (b := y) (by omega) (by omega)
    simp [hx, hy']; omega

/-- Behind 'z.abs = ..(..)': the words of N lie in the number's field. -/
def StoredAbs (w : World) (b : Nat) (T : List Nat) (N : Nat) (wx : World) : Prop :=
  ∃ w1 o1 cap1 S', Wd w1 (.slice o1 (dg N).length cap1) (dg N) S' ∧ (∀ k, k ∈ S' → k ∈ T ∨ w.heap.size ≤ k) ∧ Chg T w w1 ∧ wx = w1.setCell ⟨b, 1, none⟩ (.slice o1 (dg N).length cap1)

set_option maxRecDepth 100000 in
set_option maxHeartbeats 1000000 in
theorem quo_any (bz bx bY : Nat) (z x y : Int) (S T U : List Nat) (w : World) (hz : IntF w bz z S) (hx : IntF w bx x T) (hy : IntF w bY y U) (hzx : bz ≠ bx) (hzy : bz ≠ bY)
    (hX : x.natAbs < 18446744073709551616) (hY0 : y ≠ 0) (hY : y.natAbs < 18446744073709551616) :
    Calls Tryz.prog 122 #[.pointer (some ⟨bz, 0, none⟩), .pointer (some ⟨bx, 0, none⟩), .pointer (some ⟨bY, 0, none⟩)] w (IntRes w bz S (x.tdiv y)) := by
  obtain ⟨oz, cz, Tz, hz0, hz1, hzw, rfl, hzb⟩ := hz.cells
  obtain ⟨ox, cx, Tx, hx0, hx1, hxw, rfl, hxb⟩ := hx.cells
  obtain ⟨oy, cy, Ty, hy0, hy1, hyw, rfl, hyb⟩ := hy.cells
  have hsto := hzw.sto
  have hnz := hzw.notIn hzb
  have hnx := hzw.notIn hxb
  have hny := hzw.notIn hyb
  go_enter Tryz.func122, Tryz.ntmps122
  go_upto_region 1 with fail
  go_cut [7] (fun _ wx => StoredAbs w bz Tz (x.natAbs / y.natAbs) wx)
  case first =>
    go_region_with (first | (go_at_call 154; refine (ndiv_one _ _ _ _ _ _ x.natAbs y.natAbs w.drew (by exact hsto) (by exact hxw) hX (by exact hyw) (by omega) hY).mono ?_; rintro e w1 ⟨v', v2, S', rfl, hw1, hS1, hc1⟩; have q1 := Blk.chg (w := w.drew) hzb hc1 hnz; obtain ⟨q2, q3, q4, q5⟩ := q1.two; obtain ⟨o1, cap1, rfl, hl1, hl2⟩ := wd_form hw1))
    all_goals (go_wp2_with fail; go_meet; exact ⟨w1, o1, cap1, S', hw1, hS1, (Chg.refl _ _).drew.trans hc1, rfl⟩)
  case rest =>
    obtain ⟨w1, o1, cap1, S', hw1, hS1, hc1, rfl⟩ := hcut
    have q1 := hzb.chg hc1 hnz
    obtain ⟨q2, q3, q4, q5⟩ := q1.two
    obtain ⟨q6, q7, _, _⟩ := (hxb.chg hc1 hnx).two
    obtain ⟨q8, q9, _, _⟩ := (hyb.chg hc1 hny).two
    have HN := fun h => Lib.hid (tdiv_neg_iff x y hY0 h)
    have hA := natAbs_tdiv' x y
    have fin : ∀ wz, wz = w1.setCell ⟨bz, 1, none⟩ (.slice o1 (dg (x.natAbs / y.natAbs)).length cap1) → ∀ nb, nb = decide (x.tdiv y < 0) → IntRes w bz (bz :: Tz) (x.tdiv y) (.returned (.pointer (some ⟨bz, 0, none⟩))) ((wz.setCell ⟨bz, 0, none⟩ (.bool nb)).drew) := by
      intro wz hwz nb hnb
      subst hwz
      rw [← hA] at hw1 ⊢
      refine ⟨bz :: S', rfl, intF_stored q1 hw1 hnb, ?_, ?_⟩
      · intro k hk
        rcases List.mem_cons.1 hk with rfl | hk
        · exact .inl (by simp)
        · rcases hS1 k hk with h | h
          · exact .inl (List.mem_cons_of_mem _ h)
          · exact .inr h
      · exact (((hc1.mono fun x hx => List.mem_cons_of_mem _ hx).setCell (.inl (by simp)) _).setCell (.inl (by simp)) _).drew
    have FIN := Lib.hid fin
    clear fin hA hX hY hY0 hw1
    obtain ⟨nx, hnx'⟩ : ∃ b, decide (x < 0) = b := ⟨_, rfl⟩
    obtain ⟨ny, hny'⟩ : ∃ b, decide (y < 0) = b := ⟨_, rfl⟩
    rw [hnx'] at q6
    rw [hny'] at q8
    by_cases hQ0 : x.natAbs / y.natAbs = 0
    · have hl : (dg (x.natAbs / y.natAbs)).length = 0 := by rw [hQ0, dg_zero]; rfl
      have hz0 : x.tdiv y = 0 := by
        have := natAbs_tdiv' x y
        omega
      rw [hl]
      have HF := FIN.out _ rfl false (by rw [hz0]; rfl)
      rw [hl] at HF
      have HF' := Lib.hid HF
      clear HF hl hz0 hQ0 HN FIN hnx' hny'
      go_wp2_with fail
      go_region
      all_goals
        go_wp2
        go_ret
        exact HF'.out
    · have hN := (HN hQ0).out
      rw [hnx', hny'] at hN
      obtain ⟨l, hl⟩ : ∃ l, (dg (x.natAbs / y.natAbs)).length = l + 1 := ⟨(dg (x.natAbs / y.natAbs)).length - 1, by rw [dg_pos hQ0]; simp⟩
      rw [hl]
      have HF := FIN.out _ rfl (nx != ny) hN.symm
      rw [hl] at HF
      have HF' := Lib.hid HF
      clear HF hl hQ0 HN FIN hnx' hny' hN
      go_wp2_with fail
      go_region
      all_goals
        go_wp2
        go_ret
        exact HF'.out
end Go.Proofs.YtggoncneinlpgaaGreatDoor
