/- Walk: Int.Add onto the receiver itself: a number of at most two words and one of at most one. -/
import Derived.Test.YtggoncneinlpgaaGreatDoorM67
import Derived.Test.YtggoncneinlpgaaGreatDoorW7
namespace Go.Proofs.YtggoncneinlpgaaGreatDoor
open Go Go.RowKit Nt

set_option maxRecDepth 100000 in
set_option maxHeartbeats 4000000 in
theorem add_pp (bx bY : Nat) (x y : Int) (S U : List Nat) (w : World) (hx : IntF w bx x S) (hy : IntF w bY y U) (hsx : ¬ x < 0) (hsy : ¬ y < 0)
    (hX : x.natAbs < 18446744073709551616 * 18446744073709551616) (hY : y.natAbs < 18446744073709551616) :
    Calls Tryz.prog 27 #[.pointer (some ⟨bx, 0, none⟩), .pointer (some ⟨bx, 0, none⟩), .pointer (some ⟨bY, 0, none⟩)] w (IntRes w bx S (x + y)) := by
  obtain ⟨ox, cx, Tx, hx0, hx1, hxw, rfl, hxb⟩ := hx.cells
  obtain ⟨oy, cy, Ty, hy0, hy1, hyw, rfl, hyb⟩ := hy.cells
  have hsto := hxw.sto
  have hnx := hxw.notIn hxb
  have hny := hxw.notIn hyb
  have HA := Lib.hid (show (x + y).natAbs = x.natAbs + y.natAbs by omega)
  have HNN := Lib.hid (show decide (x + y < 0) = (decide (x.natAbs + y.natAbs ≠ 0) && false) by rw [Bool.and_false, decide_eq_false (show ¬ x + y < 0 by omega)])
  have hbx : decide (x < 0) = false := by simpa using hsx
  rw [hbx] at hx0
  have hby : decide (y < 0) = false := by simpa using hsy
  rw [hby] at hy0
  clear hbx hby
  go_enter Tryz.func27, Tryz.ntmps27
  go_upto_region 2 with fail
  go_quiet (fail)
  go_upto_region 3 with fail
  go_cut [34] (fun _ wx => StoredAbs w bx Tx (x.natAbs + y.natAbs) wx)
  case first =>
    go_region_with (first | (go_at_call 40; refine (nadd_any _ _ _ _ _ _ x.natAbs y.natAbs (w.drewN nq).drew (by exact hsto) (by exact hxw) hX (by exact hyw) hY).mono ?_; rintro e w1 ⟨v', S', rfl, hw1, hS1, hc1⟩; have q1 := Blk.chg (w := (w.drewN (nq)).drew) hxb hc1 hnx; obtain ⟨q2, q3, q4, q5⟩ := q1.two; obtain ⟨o1, cap1, rfl, hl1, hl2⟩ := wd_form hw1))
    all_goals (go_wp2_with fail; go_meet; exact ⟨w1, o1, cap1, S', hw1, hS1, ((Chg.refl _ _).drewN (nq)).drew.trans hc1, rfl⟩)
  case rest =>
    obtain ⟨w1, o1, cap1, S', hw1, hS1, hc1, rfl⟩ := hcut
    have q1 := hxb.chg hc1 hnx
    obtain ⟨q2, q3, q4, q5⟩ := q1.two
    have fin : ∀ wz, wz = w1.setCell ⟨bx, 1, none⟩ (.slice o1 (dg (x.natAbs + y.natAbs)).length cap1) → ∀ nb, nb = decide (x + y < 0) → IntRes w bx (bx :: Tx) (x + y) (.returned (.pointer (some ⟨bx, 0, none⟩))) (wz.setCell ⟨bx, 0, none⟩ (.bool nb)) := by
      intro wz hwz nb hnb
      subst hwz
      rw [← HA.out] at hw1 ⊢
      refine ⟨bx :: S', rfl, intF_stored q1 hw1 hnb, ?_, ?_⟩
      · intro k hk
        rcases List.mem_cons.1 hk with rfl | hk
        · exact .inl (by simp)
        · rcases hS1 k hk with h | h
          · exact .inl (List.mem_cons_of_mem _ h)
          · exact .inr h
      · exact ((hc1.mono fun x hx => List.mem_cons_of_mem _ hx).setCell (.inl (by simp)) _).setCell (.inl (by simp)) _
    have FIN := Lib.hid fin
    have HN := HNN
    clear fin hw1 HA HNN
    obtain ⟨N, hN⟩ : ∃ N, x.natAbs + y.natAbs = N := ⟨_, rfl⟩
    rw [hN] at FIN HN ⊢
    clear hN
    by_cases hQ0 : N = 0
    · have hl : (dg N).length = 0 := by rw [hQ0, dg_zero]; rfl
      rw [hl]
      have HF := FIN.out _ rfl false (by rw [HN.out, hQ0]; rfl)
      rw [hl] at HF
      have HF' := Lib.hid HF
      clear HF hl hQ0 HN FIN
      go_wp2_with fail
      go_ret
      exact HF'.out
    · obtain ⟨l, hl⟩ : ∃ l, (dg N).length = l + 1 := ⟨(dg N).length - 1, by rw [dg_pos hQ0]; simp⟩
      rw [hl]
      have HF := FIN.out _ rfl false (by rw [HN.out]; simp [hQ0])
      rw [hl] at HF
      have HF' := Lib.hid HF
      clear HF hl hQ0 HN FIN
      go_wp2_with fail
      go_ret
      exact HF'.out

set_option maxRecDepth 100000 in
set_option maxHeartbeats 4000000 in
theorem add_nn (bx bY : Nat) (x y : Int) (S U : List Nat) (w : World) (hx : IntF w bx x S) (hy : IntF w bY y U) (hsx : x < 0) (hsy : y < 0)
    (hX : x.natAbs < 18446744073709551616 * 18446744073709551616) (hY : y.natAbs < 18446744073709551616) :
    Calls Tryz.prog 27 #[.pointer (some ⟨bx, 0, none⟩), .pointer (some ⟨bx, 0, none⟩), .pointer (some ⟨bY, 0, none⟩)] w (IntRes w bx S (x + y)) := by
  obtain ⟨ox, cx, Tx, hx0, hx1, hxw, rfl, hxb⟩ := hx.cells
  obtain ⟨oy, cy, Ty, hy0, hy1, hyw, rfl, hyb⟩ := hy.cells
  have hsto := hxw.sto
  have hnx := hxw.notIn hxb
  have hny := hxw.notIn hyb
  have HA := Lib.hid (show (x + y).natAbs = x.natAbs + y.natAbs by omega)
  have HNN := Lib.hid (show decide (x + y < 0) = (decide (x.natAbs + y.natAbs ≠ 0) && true) by rw [decide_eq_true (show x + y < 0 by omega), decide_eq_true (show x.natAbs + y.natAbs ≠ 0 by omega)]; rfl)
  have hbx : decide (x < 0) = true := by simpa using hsx
  rw [hbx] at hx0
  have hby : decide (y < 0) = true := by simpa using hsy
  rw [hby] at hy0
  clear hbx hby
  go_enter Tryz.func27, Tryz.ntmps27
  go_upto_region 2 with fail
  go_quiet (fail)
  go_upto_region 3 with fail
  go_cut [34] (fun _ wx => StoredAbs w bx Tx (x.natAbs + y.natAbs) wx)
  case first =>
    go_region_with (first | (go_at_call 40; refine (nadd_any _ _ _ _ _ _ x.natAbs y.natAbs (w.drewN nq).drew (by exact hsto) (by exact hxw) hX (by exact hyw) hY).mono ?_; rintro e w1 ⟨v', S', rfl, hw1, hS1, hc1⟩; have q1 := Blk.chg (w := (w.drewN (nq)).drew) hxb hc1 hnx; obtain ⟨q2, q3, q4, q5⟩ := q1.two; obtain ⟨o1, cap1, rfl, hl1, hl2⟩ := wd_form hw1))
    all_goals (go_wp2_with fail; go_meet; exact ⟨w1, o1, cap1, S', hw1, hS1, ((Chg.refl _ _).drewN (nq)).drew.trans hc1, rfl⟩)
  case rest =>
    obtain ⟨w1, o1, cap1, S', hw1, hS1, hc1, rfl⟩ := hcut
    have q1 := hxb.chg hc1 hnx
    obtain ⟨q2, q3, q4, q5⟩ := q1.two
    have fin : ∀ wz, wz = w1.setCell ⟨bx, 1, none⟩ (.slice o1 (dg (x.natAbs + y.natAbs)).length cap1) → ∀ nb, nb = decide (x + y < 0) → IntRes w bx (bx :: Tx) (x + y) (.returned (.pointer (some ⟨bx, 0, none⟩))) (wz.setCell ⟨bx, 0, none⟩ (.bool nb)) := by
      intro wz hwz nb hnb
      subst hwz
      rw [← HA.out] at hw1 ⊢
      refine ⟨bx :: S', rfl, intF_stored q1 hw1 hnb, ?_, ?_⟩
      · intro k hk
        rcases List.mem_cons.1 hk with rfl | hk
        · exact .inl (by simp)
        · rcases hS1 k hk with h | h
          · exact .inl (List.mem_cons_of_mem _ h)
          · exact .inr h
      · exact ((hc1.mono fun x hx => List.mem_cons_of_mem _ hx).setCell (.inl (by simp)) _).setCell (.inl (by simp)) _
    have FIN := Lib.hid fin
    have HN := HNN
    clear fin hw1 HA HNN
    obtain ⟨N, hN⟩ : ∃ N, x.natAbs + y.natAbs = N := ⟨_, rfl⟩
    rw [hN] at FIN HN ⊢
    clear hN
    by_cases hQ0 : N = 0
    · have hl : (dg N).length = 0 := by rw [hQ0, dg_zero]; rfl
      rw [hl]
      have HF := FIN.out _ rfl false (by rw [HN.out, hQ0]; rfl)
      rw [hl] at HF
      have HF' := Lib.hid HF
      clear HF hl hQ0 HN FIN
      go_wp2_with fail
      go_ret
      exact HF'.out
    · obtain ⟨l, hl⟩ : ∃ l, (dg N).length = l + 1 := ⟨(dg N).length - 1, by rw [dg_pos hQ0]; simp⟩
      rw [hl]
      have HF := FIN.out _ rfl true (by rw [HN.out]; simp [hQ0])
      rw [hl] at HF
      have HF' := Lib.hid HF
      clear HF hl hQ0 HN FIN
      go_wp2_with fail
      go_ret
      exact HF'.out

set_option maxRecDepth 100000 in
set_option maxHeartbeats 4000000 in
theorem add_ge_pn (bx bY : Nat) (x y : Int) (S U : List Nat) (w : World) (hx : IntF w bx x S) (hy : IntF w bY y U) (hsx : ¬ x < 0) (hsy : y < 0) (hle : y.natAbs ≤ x.natAbs)
    (hX : x.natAbs < 18446744073709551616 * 18446744073709551616) (hY : y.natAbs < 18446744073709551616) :
    Calls Tryz.prog 27 #[.pointer (some ⟨bx, 0, none⟩), .pointer (some ⟨bx, 0, none⟩), .pointer (some ⟨bY, 0, none⟩)] w (IntRes w bx S (x + y)) := by
  obtain ⟨ox, cx, Tx, hx0, hx1, hxw, rfl, hxb⟩ := hx.cells
  obtain ⟨oy, cy, Ty, hy0, hy1, hyw, rfl, hyb⟩ := hy.cells
  have hsto := hxw.sto
  have hnx := hxw.notIn hxb
  have hny := hxw.notIn hyb
  have HA := Lib.hid (show (x + y).natAbs = x.natAbs - y.natAbs by omega)
  have HNN := Lib.hid (show decide (x + y < 0) = (decide (x.natAbs - y.natAbs ≠ 0) && false) by rw [Bool.and_false, decide_eq_false (show ¬ x + y < 0 by omega)])
  have HLE := Lib.hid hle
  have HCMP := Lib.hid (fun m => ncmp_any _ _ x.natAbs y.natAbs _ _ (w.drewN m) (by exact hxw) (by exact hyw))
  have hcv : 0 ≤ cmpI x.natAbs y.natAbs := by
    unfold cmpI
    rw [if_neg (by omega)]
    split <;> omega
  obtain ⟨cv, hcvv⟩ : ∃ c, cmpI x.natAbs y.natAbs = c := ⟨_, rfl⟩
  rw [hcvv] at HCMP hcv
  clear hcvv
  clear hle
  have hbx : decide (x < 0) = false := by simpa using hsx
  rw [hbx] at hx0
  have hby : decide (y < 0) = true := by simpa using hsy
  rw [hby] at hy0
  clear hbx hby
  go_enter Tryz.func27, Tryz.ntmps27
  go_upto_region 2 with fail
  go_quiet (fail)
  obtain ⟨n1, rfl⟩ : ∃ n1 : Nat, n1 = nq := ⟨_, rfl⟩
  go_upto_region 4 with fail
  go_quiet ((go_at_call 41; refine (HCMP.out _).mono ?_; rintro e w' ⟨rfl, m, rfl⟩; exact ⟨rfl, _, by rw [World.drewN_drewN, Nat.add_assoc]⟩))
  go_upto_region 5 with fail
  go_cut [60] (fun _ wx => StoredAbs w bx Tx (x.natAbs - y.natAbs) wx)
  case first =>
    go_region_with (first | (go_at_call 42; refine (nsub_any _ _ _ _ _ _ x.natAbs y.natAbs (w.drewN (n1 + nq)).drew (by exact hsto) (by exact hxw) hX (by exact hyw) hY HLE.out).mono ?_; rintro e w1 ⟨v', S', rfl, hw1, hS1, hc1⟩; have q1 := Blk.chg (w := (w.drewN (n1 + nq)).drew) hxb hc1 hnx; obtain ⟨q2, q3, q4, q5⟩ := q1.two; obtain ⟨o1, cap1, rfl, hl1, hl2⟩ := wd_form hw1))
    all_goals (go_wp2_with fail; go_meet; exact ⟨w1, o1, cap1, S', hw1, hS1, ((Chg.refl _ _).drewN (n1 + nq)).drew.trans hc1, rfl⟩)
  case rest =>
    obtain ⟨w1, o1, cap1, S', hw1, hS1, hc1, rfl⟩ := hcut
    have q1 := hxb.chg hc1 hnx
    obtain ⟨q2, q3, q4, q5⟩ := q1.two
    have fin : ∀ wz, wz = w1.setCell ⟨bx, 1, none⟩ (.slice o1 (dg (x.natAbs - y.natAbs)).length cap1) → ∀ nb, nb = decide (x + y < 0) → IntRes w bx (bx :: Tx) (x + y) (.returned (.pointer (some ⟨bx, 0, none⟩))) (wz.setCell ⟨bx, 0, none⟩ (.bool nb)) := by
      intro wz hwz nb hnb
      subst hwz
      rw [← HA.out] at hw1 ⊢
      refine ⟨bx :: S', rfl, intF_stored q1 hw1 hnb, ?_, ?_⟩
      · intro k hk
        rcases List.mem_cons.1 hk with rfl | hk
        · exact .inl (by simp)
        · rcases hS1 k hk with h | h
          · exact .inl (List.mem_cons_of_mem _ h)
          · exact .inr h
      · exact ((hc1.mono fun x hx => List.mem_cons_of_mem _ hx).setCell (.inl (by simp)) _).setCell (.inl (by simp)) _
    have FIN := Lib.hid fin
    have HN := HNN
    clear fin hw1 HA HNN
    obtain ⟨N, hN⟩ : ∃ N, x.natAbs - y.natAbs = N := ⟨_, rfl⟩
    rw [hN] at FIN HN ⊢
    clear hN
    by_cases hQ0 : N = 0
    · have hl : (dg N).length = 0 := by rw [hQ0, dg_zero]; rfl
      rw [hl]
      have HF := FIN.out _ rfl false (by rw [HN.out, hQ0]; rfl)
      rw [hl] at HF
      have HF' := Lib.hid HF
      clear HF hl hQ0 HN FIN
      go_wp2_with fail
      go_ret
      exact HF'.out
    · obtain ⟨l, hl⟩ : ∃ l, (dg N).length = l + 1 := ⟨(dg N).length - 1, by rw [dg_pos hQ0]; simp⟩
      rw [hl]
      have HF := FIN.out _ rfl false (by rw [HN.out]; simp [hQ0])
      rw [hl] at HF
      have HF' := Lib.hid HF
      clear HF hl hQ0 HN FIN
      go_wp2_with fail
      go_ret
      exact HF'.out

set_option maxRecDepth 100000 in
set_option maxHeartbeats 4000000 in
theorem add_lt_pn (bx bY : Nat) (x y : Int) (S U : List Nat) (w : World) (hx : IntF w bx x S) (hy : IntF w bY y U) (hsx : ¬ x < 0) (hsy : y < 0) (hle : x.natAbs < y.natAbs)
    (hX : x.natAbs < 18446744073709551616 * 18446744073709551616) (hY : y.natAbs < 18446744073709551616) :
    Calls Tryz.prog 27 #[.pointer (some ⟨bx, 0, none⟩), .pointer (some ⟨bx, 0, none⟩), .pointer (some ⟨bY, 0, none⟩)] w (IntRes w bx S (x + y)) := by
  obtain ⟨ox, cx, Tx, hx0, hx1, hxw, rfl, hxb⟩ := hx.cells
  obtain ⟨oy, cy, Ty, hy0, hy1, hyw, rfl, hyb⟩ := hy.cells
  have hsto := hxw.sto
  have hnx := hxw.notIn hxb
  have hny := hxw.notIn hyb
  have HA := Lib.hid (show (x + y).natAbs = y.natAbs - x.natAbs by omega)
  have HNN := Lib.hid (show decide (x + y < 0) = (decide (y.natAbs - x.natAbs ≠ 0) && true) by rw [Bool.and_true]; exact decide_eq_decide.2 (by omega))
  have HLE := Lib.hid (Nat.le_of_lt hle)
  have HX1 := Lib.hid (show x.natAbs < 18446744073709551616 by omega)
  have HX2 := Lib.hid (show y.natAbs < 18446744073709551616 * 18446744073709551616 by omega)
  have HCMP := Lib.hid (fun m => ncmp_any _ _ x.natAbs y.natAbs _ _ (w.drewN m) (by exact hxw) (by exact hyw))
  have hcv : cmpI x.natAbs y.natAbs = -1 := by
    unfold cmpI
    rw [if_pos (by omega)]
  rw [hcv] at HCMP
  clear hcv
  clear hle
  have hbx : decide (x < 0) = false := by simpa using hsx
  rw [hbx] at hx0
  have hby : decide (y < 0) = true := by simpa using hsy
  rw [hby] at hy0
  clear hbx hby
  go_enter Tryz.func27, Tryz.ntmps27
  go_upto_region 2 with fail
  go_quiet (fail)
  obtain ⟨n1, rfl⟩ : ∃ n1 : Nat, n1 = nq := ⟨_, rfl⟩
  go_upto_region 4 with fail
  go_quiet ((go_at_call 41; refine (HCMP.out _).mono ?_; rintro e w' ⟨rfl, m, rfl⟩; exact ⟨rfl, _, by rw [World.drewN_drewN, Nat.add_assoc]⟩))
  go_upto_region 7 with fail
  go_cut [78] (fun _ wx => StoredAbs w bx Tx (y.natAbs - x.natAbs) wx)
  case first =>
    go_region_with (first | (go_at_call 42; refine (nsub_any _ _ _ _ _ _ y.natAbs x.natAbs (w.drewN (n1 + nq)).drew (by exact hsto) (by exact hyw) HX2.out (by exact hxw) HX1.out HLE.out).mono ?_; rintro e w1 ⟨v', S', rfl, hw1, hS1, hc1⟩; have q1 := Blk.chg (w := (w.drewN (n1 + nq)).drew) hxb hc1 hnx; obtain ⟨q2, q3, q4, q5⟩ := q1.two; obtain ⟨o1, cap1, rfl, hl1, hl2⟩ := wd_form hw1))
    all_goals (go_wp2_with fail; go_meet; exact ⟨w1, o1, cap1, S', hw1, hS1, ((Chg.refl _ _).drewN (n1 + nq)).drew.trans hc1, rfl⟩)
  case rest =>
    obtain ⟨w1, o1, cap1, S', hw1, hS1, hc1, rfl⟩ := hcut
    have q1 := hxb.chg hc1 hnx
    obtain ⟨q2, q3, q4, q5⟩ := q1.two
    have fin : ∀ wz, wz = w1.setCell ⟨bx, 1, none⟩ (.slice o1 (dg (y.natAbs - x.natAbs)).length cap1) → ∀ nb, nb = decide (x + y < 0) → IntRes w bx (bx :: Tx) (x + y) (.returned (.pointer (some ⟨bx, 0, none⟩))) (wz.setCell ⟨bx, 0, none⟩ (.bool nb)) := by
      intro wz hwz nb hnb
      subst hwz
      rw [← HA.out] at hw1 ⊢
      refine ⟨bx :: S', rfl, intF_stored q1 hw1 hnb, ?_, ?_⟩
      · intro k hk
        rcases List.mem_cons.1 hk with rfl | hk
        · exact .inl (by simp)
        · rcases hS1 k hk with h | h
          · exact .inl (List.mem_cons_of_mem _ h)
          · exact .inr h
      · exact ((hc1.mono fun x hx => List.mem_cons_of_mem _ hx).setCell (.inl (by simp)) _).setCell (.inl (by simp)) _
    have FIN := Lib.hid fin
    have HN := HNN
    clear fin hw1 HA HNN
    obtain ⟨N, hN⟩ : ∃ N, y.natAbs - x.natAbs = N := ⟨_, rfl⟩
    rw [hN] at FIN HN ⊢
    clear hN
    by_cases hQ0 : N = 0
    · have hl : (dg N).length = 0 := by rw [hQ0, dg_zero]; rfl
      rw [hl]
      have HF := FIN.out _ rfl false (by rw [HN.out, hQ0]; rfl)
      rw [hl] at HF
      have HF' := Lib.hid HF
      clear HF hl hQ0 HN FIN
      go_wp2_with fail
      go_ret
      exact HF'.out
    · obtain ⟨l, hl⟩ : ∃ l, (dg N).length = l + 1 := ⟨(dg N).length - 1, by rw [dg_pos hQ0]; simp⟩
      rw [hl]
      have HF := FIN.out _ rfl true (by rw [HN.out]; simp [hQ0])
      rw [hl] at HF
      have HF' := Lib.hid HF
      clear HF hl hQ0 HN FIN
      go_wp2_with fail
      go_ret
      exact HF'.out

set_option maxRecDepth 100000 in
set_option maxHeartbeats 4000000 in
theorem add_ge_np (bx bY : Nat) (x y : Int) (S U : List Nat) (w : World) (hx : IntF w bx x S) (hy : IntF w bY y U) (hsx : x < 0) (hsy : ¬ y < 0) (hle : y.natAbs ≤ x.natAbs)
    (hX : x.natAbs < 18446744073709551616 * 18446744073709551616) (hY : y.natAbs < 18446744073709551616) :
    Calls Tryz.prog 27 #[.pointer (some ⟨bx, 0, none⟩), .pointer (some ⟨bx, 0, none⟩), .pointer (some ⟨bY, 0, none⟩)] w (IntRes w bx S (x + y)) := by
  obtain ⟨ox, cx, Tx, hx0, hx1, hxw, rfl, hxb⟩ := hx.cells
  obtain ⟨oy, cy, Ty, hy0, hy1, hyw, rfl, hyb⟩ := hy.cells
  have hsto := hxw.sto
  have hnx := hxw.notIn hxb
  have hny := hxw.notIn hyb
  have HA := Lib.hid (show (x + y).natAbs = x.natAbs - y.natAbs by omega)
  have HNN := Lib.hid (show decide (x + y < 0) = (decide (x.natAbs - y.natAbs ≠ 0) && true) by rw [Bool.and_true]; exact decide_eq_decide.2 (by omega))
  have HLE := Lib.hid hle
  have HCMP := Lib.hid (fun m => ncmp_any _ _ x.natAbs y.natAbs _ _ (w.drewN m) (by exact hxw) (by exact hyw))
  have hcv : 0 ≤ cmpI x.natAbs y.natAbs := by
    unfold cmpI
    rw [if_neg (by omega)]
    split <;> omega
  obtain ⟨cv, hcvv⟩ : ∃ c, cmpI x.natAbs y.natAbs = c := ⟨_, rfl⟩
  rw [hcvv] at HCMP hcv
  clear hcvv
  clear hle
  have hbx : decide (x < 0) = true := by simpa using hsx
  rw [hbx] at hx0
  have hby : decide (y < 0) = false := by simpa using hsy
  rw [hby] at hy0
  clear hbx hby
  go_enter Tryz.func27, Tryz.ntmps27
  go_upto_region 2 with fail
  go_quiet (fail)
  obtain ⟨n1, rfl⟩ : ∃ n1 : Nat, n1 = nq := ⟨_, rfl⟩
  go_upto_region 4 with fail
  go_quiet ((go_at_call 41; refine (HCMP.out _).mono ?_; rintro e w' ⟨rfl, m, rfl⟩; exact ⟨rfl, _, by rw [World.drewN_drewN, Nat.add_assoc]⟩))
  go_upto_region 5 with fail
  go_cut [60] (fun _ wx => StoredAbs w bx Tx (x.natAbs - y.natAbs) wx)
  case first =>
    go_region_with (first | (go_at_call 42; refine (nsub_any _ _ _ _ _ _ x.natAbs y.natAbs (w.drewN (n1 + nq)).drew (by exact hsto) (by exact hxw) hX (by exact hyw) hY HLE.out).mono ?_; rintro e w1 ⟨v', S', rfl, hw1, hS1, hc1⟩; have q1 := Blk.chg (w := (w.drewN (n1 + nq)).drew) hxb hc1 hnx; obtain ⟨q2, q3, q4, q5⟩ := q1.two; obtain ⟨o1, cap1, rfl, hl1, hl2⟩ := wd_form hw1))
    all_goals (go_wp2_with fail; go_meet; exact ⟨w1, o1, cap1, S', hw1, hS1, ((Chg.refl _ _).drewN (n1 + nq)).drew.trans hc1, rfl⟩)
  case rest =>
    obtain ⟨w1, o1, cap1, S', hw1, hS1, hc1, rfl⟩ := hcut
    have q1 := hxb.chg hc1 hnx
    obtain ⟨q2, q3, q4, q5⟩ := q1.two
    have fin : ∀ wz, wz = w1.setCell ⟨bx, 1, none⟩ (.slice o1 (dg (x.natAbs - y.natAbs)).length cap1) → ∀ nb, nb = decide (x + y < 0) → IntRes w bx (bx :: Tx) (x + y) (.returned (.pointer (some ⟨bx, 0, none⟩))) (wz.setCell ⟨bx, 0, none⟩ (.bool nb)) := by
      intro wz hwz nb hnb
      subst hwz
      rw [← HA.out] at hw1 ⊢
      refine ⟨bx :: S', rfl, intF_stored q1 hw1 hnb, ?_, ?_⟩
      · intro k hk
        rcases List.mem_cons.1 hk with rfl | hk
        · exact .inl (by simp)
        · rcases hS1 k hk with h | h
          · exact .inl (List.mem_cons_of_mem _ h)
          · exact .inr h
      · exact ((hc1.mono fun x hx => List.mem_cons_of_mem _ hx).setCell (.inl (by simp)) _).setCell (.inl (by simp)) _
    have FIN := Lib.hid fin
    have HN := HNN
    clear fin hw1 HA HNN
    obtain ⟨N, hN⟩ : ∃ N, x.natAbs - y.natAbs = N := ⟨_, rfl⟩
    rw [hN] at FIN HN ⊢
    clear hN
    by_cases hQ0 : N = 0
    · have hl : (dg N).length = 0 := by rw [hQ0, dg_zero]; rfl
      rw [hl]
      have HF := FIN.out _ rfl false (by rw [HN.out, hQ0]; rfl)
      rw [hl] at HF
      have HF' := Lib.hid HF
      clear HF hl hQ0 HN FIN
      go_wp2_with fail
      go_ret
      exact HF'.out
    · obtain ⟨l, hl⟩ : ∃ l, (dg N).length = l + 1 := ⟨(dg N).length - 1, by rw [dg_pos hQ0]; simp⟩
      rw [hl]
      have HF := FIN.out _ rfl true (by rw [HN.out]; simp [hQ0])
      rw [hl] at HF
      have HF' := Lib.hid HF
      clear HF hl hQ0 HN FIN
      go_wp2_with fail
      go_ret
      exact HF'.out

set_option maxRecDepth 100000 in
set_option maxHeartbeats 4000000 in
theorem add_lt_np (bx bY : Nat) (x y : Int) (S U : List Nat) (w : World) (hx : IntF w bx x S) (hy : IntF w bY y U) (hsx : x < 0) (hsy : ¬ y < 0) (hle : x.natAbs < y.natAbs)
    (hX : x.natAbs < 18446744073709551616 * 18446744073709551616) (hY : y.natAbs < 18446744073709551616) :
    Calls Tryz.prog 27 #[.pointer (some ⟨bx, 0, none⟩), .pointer (some ⟨bx, 0, none⟩), .pointer (some ⟨bY, 0, none⟩)] w (IntRes w bx S (x + y)) := by
  obtain ⟨ox, cx, Tx, hx0, hx1, hxw, rfl, hxb⟩ := hx.cells
  obtain ⟨oy, cy, Ty, hy0, hy1, hyw, rfl, hyb⟩ := hy.cells
  have hsto := hxw.sto
  have hnx := hxw.notIn hxb
  have hny := hxw.notIn hyb
  have HA := Lib.hid (show (x + y).natAbs = y.natAbs - x.natAbs by omega)
  have HNN := Lib.hid (show decide (x + y < 0) = (decide (y.natAbs - x.natAbs ≠ 0) && false) by rw [Bool.and_false, decide_eq_false (show ¬ x + y < 0 by omega)])
  have HLE := Lib.hid (Nat.le_of_lt hle)
  have HX1 := Lib.hid (show x.natAbs < 18446744073709551616 by omega)
  have HX2 := Lib.hid (show y.natAbs < 18446744073709551616 * 18446744073709551616 by omega)
  have HCMP := Lib.hid (fun m => ncmp_any _ _ x.natAbs y.natAbs _ _ (w.drewN m) (by exact hxw) (by exact hyw))
  have hcv : cmpI x.natAbs y.natAbs = -1 := by
    unfold cmpI
    rw [if_pos (by omega)]
  rw [hcv] at HCMP
  clear hcv
  clear hle
  have hbx : decide (x < 0) = true := by simpa using hsx
  rw [hbx] at hx0
  have hby : decide (y < 0) = false := by simpa using hsy
  rw [hby] at hy0
  clear hbx hby
  go_enter Tryz.func27, Tryz.ntmps27
  go_upto_region 2 with fail
  go_quiet (fail)
  obtain ⟨n1, rfl⟩ : ∃ n1 : Nat, n1 = nq := ⟨_, rfl⟩
  go_upto_region 4 with fail
  go_quiet ((go_at_call 41; refine (HCMP.out _).mono ?_; rintro e w' ⟨rfl, m, rfl⟩; exact ⟨rfl, _, by rw [World.drewN_drewN, Nat.add_assoc]⟩))
  go_upto_region 7 with fail
  go_cut [78] (fun _ wx => StoredAbs w bx Tx (y.natAbs - x.natAbs) wx)
  case first =>
    go_region_with (first | (go_at_call 42; refine (nsub_any _ _ _ _ _ _ y.natAbs x.natAbs (w.drewN (n1 + nq)).drew (by exact hsto) (by exact hyw) HX2.out (by exact hxw) HX1.out HLE.out).mono ?_; rintro e w1 ⟨v', S', rfl, hw1, hS1, hc1⟩; have q1 := Blk.chg (w := (w.drewN (n1 + nq)).drew) hxb hc1 hnx; obtain ⟨q2, q3, q4, q5⟩ := q1.two; obtain ⟨o1, cap1, rfl, hl1, hl2⟩ := wd_form hw1))
    all_goals (go_wp2_with fail; go_meet; exact ⟨w1, o1, cap1, S', hw1, hS1, ((Chg.refl _ _).drewN (n1 + nq)).drew.trans hc1, rfl⟩)
  case rest =>
    obtain ⟨w1, o1, cap1, S', hw1, hS1, hc1, rfl⟩ := hcut
    have q1 := hxb.chg hc1 hnx
    obtain ⟨q2, q3, q4, q5⟩ := q1.two
    have fin : ∀ wz, wz = w1.setCell ⟨bx, 1, none⟩ (.slice o1 (dg (y.natAbs - x.natAbs)).length cap1) → ∀ nb, nb = decide (x + y < 0) → IntRes w bx (bx :: Tx) (x + y) (.returned (.pointer (some ⟨bx, 0, none⟩))) (wz.setCell ⟨bx, 0, none⟩ (.bool nb)) := by
      intro wz hwz nb hnb
      subst hwz
      rw [← HA.out] at hw1 ⊢
      refine ⟨bx :: S', rfl, intF_stored q1 hw1 hnb, ?_, ?_⟩
      · intro k hk
        rcases List.mem_cons.1 hk with rfl | hk
        · exact .inl (by simp)
        · rcases hS1 k hk with h | h
          · exact .inl (List.mem_cons_of_mem _ h)
          · exact .inr h
      · exact ((hc1.mono fun x hx => List.mem_cons_of_mem _ hx).setCell (.inl (by simp)) _).setCell (.inl (by simp)) _
    have FIN := Lib.hid fin
    have HN := HNN
    clear fin hw1 HA HNN
    obtain ⟨N, hN⟩ : ∃ N, y.natAbs - x.natAbs = N := ⟨_, rfl⟩
    rw [hN] at FIN HN ⊢
    clear hN
    by_cases hQ0 : N = 0
    · have hl : (dg N).length = 0 := by rw [hQ0, dg_zero]; rfl
      rw [hl]
      have HF := FIN.out _ rfl false (by rw [HN.out, hQ0]; rfl)
      rw [hl] at HF
      have HF' := Lib.hid HF
      clear HF hl hQ0 HN FIN
      go_wp2_with fail
      go_ret
      exact HF'.out
    · obtain ⟨l, hl⟩ : ∃ l, (dg N).length = l + 1 := ⟨(dg N).length - 1, by rw [dg_pos hQ0]; simp⟩
      rw [hl]
      have HF := FIN.out _ rfl false (by rw [HN.out]; simp [hQ0])
      rw [hl] at HF
      have HF' := Lib.hid HF
      clear HF hl hQ0 HN FIN
      go_wp2_with fail
      go_ret
      exact HF'.out

/-- Add onto the receiver. -/
theorem add_any (bx bY : Nat) (x y : Int) (S U : List Nat) (w : World) (hx : IntF w bx x S) (hy : IntF w bY y U)
    (hX : x.natAbs < 18446744073709551616 * 18446744073709551616) (hY : y.natAbs < 18446744073709551616) :
    Calls Tryz.prog 27 #[.pointer (some ⟨bx, 0, none⟩), .pointer (some ⟨bx, 0, none⟩), .pointer (some ⟨bY, 0, none⟩)] w (IntRes w bx S (x + y)) := by
  by_cases h1 : x < 0 <;> by_cases h2 : y < 0
  · exact add_nn bx bY x y S U w hx hy h1 h2 hX hY
  · by_cases h : y.natAbs ≤ x.natAbs
    · exact add_ge_np bx bY x y S U w hx hy h1 h2 h hX hY
    · exact add_lt_np bx bY x y S U w hx hy h1 h2 (by omega) hX hY
  · by_cases h : y.natAbs ≤ x.natAbs
    · exact add_ge_pn bx bY x y S U w hx hy h1 h2 h hX hY
    · exact add_lt_pn bx bY x y S U w hx hy h1 h2 (by omega) hX hY
  · exact add_pp bx bY x y S U w hx hy h1 h2 hX hY
end Go.Proofs.YtggoncneinlpgaaGreatDoor
