/- Walks: nat.mul, Int.mul, Int.Mul at numbers of one word. -/
import Derived.Test.YtggoncneinlpgaaGreatDoorM2
import Derived.Test.YtggoncneinlpgaaGreatDoorW7
namespace Go.Proofs.YtggoncneinlpgaaGreatDoor
open Go Go.RowKit Nt

set_option maxRecDepth 100000 in
set_option maxHeartbeats 1000000 in
theorem nmul_ge (v x y : Value) (S T U : List Nat) (X Y : Nat) (w : World) (hs : Sto w v S) (hx : Wd w x (dg X) T) (hX : X < 18446744073709551616) (hy : Wd w y (dg Y) U) (hY : Y < 18446744073709551616) (hXY : Y ≠ 0 → X ≠ 0) :
    Calls Tryz.prog 71 #[v, .pointer none, x, y] w (NatRes w S (X * Y)) := by
  by_cases hY0 : Y = 0
  · subst hY0
    rw [Nat.mul_zero]
    rw [dg_zero] at hy
    obtain ⟨oy, cy, rfl, _, _⟩ := wd_form hy
    obtain ⟨ox, cx, rfl, _, _⟩ := wd_form hx
    obtain ⟨o, n, cap, rfl, hw⟩ := wd_nil hs
    have hbd := sto_bounds hs
    have hlx := @dg_length_le X 1 (by rw [B_eq]; omega)
    generalize (dg X).length = lx at *
    go_enter_defers Tryz.func71, Tryz.ntmps71
    go_wp2_with fail
    all_goals exact ⟨_, results_tmp (t := 8) rfl _ _ _, .slice o 0 cap, S, rfl, hw, fun k hk => .inl hk, Chg.refl _ _⟩
  · have hX0 := hXY hY0
    have hx' := hx
    rw [dg_one hX0 (by rw [B_eq]; exact hX)] at hx
    rw [dg_one hY0 (by rw [B_eq]; exact hY)] at hy
    rcases hx with ⟨_, _, h⟩ | ⟨ax, cx, csx, rfl, rfl, h1, h2, h3, hbx, hcx⟩
    · cases h
    rcases hy with ⟨_, _, h⟩ | ⟨ay, cy, csy, rfl, rfl, h1y, h2y, h3y, hby, hcy⟩
    · cases h
    have hy0 : w.cell? ⟨ay, 0, none⟩ = some (.int .u64 Y) := (hby.cell 0).trans (hcy 0 (by simp))
    have HC := Lib.hid (mulAddWW_one v _ S _ X Y w hs hx' hX0 hX hY0 hY)
    clear hx' hs
    go_enter_defers Tryz.func71, Tryz.ntmps71
    go_wp2_with fail
    refine HC.out.mono ?_
    rintro e w1 ⟨v', S', rfl, r1, r2, r3⟩
    go_wp2_with fail
    exact ⟨_, results_tmp rfl _ _ _, v', S', rfl, r1, r2, r3⟩

set_option maxRecDepth 100000 in
set_option maxHeartbeats 1000000 in
theorem nmul_one (v x y : Value) (S T U : List Nat) (X Y : Nat) (w : World) (hs : Sto w v S) (hx : Wd w x (dg X) T) (hX : X < 18446744073709551616) (hy : Wd w y (dg Y) U) (hY : Y < 18446744073709551616) :
    Calls Tryz.prog 71 #[v, .pointer none, x, y] w (NatRes w S (X * Y)) := by
  by_cases hXY : Y ≠ 0 → X ≠ 0
  · exact nmul_ge v x y S T U X Y w hs hx hX hy hY hXY
  · have hY0 : Y ≠ 0 := fun h => hXY (fun h' => absurd h h')
    have hX0 : X = 0 := Decidable.byContradiction fun h => hXY fun _ => h
    subst hX0
    have HC := Lib.hid (nmul_ge v y x S U T Y 0 w hs hy hY hx (by omega) (fun h => absurd rfl h))
    rw [Nat.mul_zero] at HC
    rw [Nat.zero_mul]
    rw [dg_zero] at hx
    rw [dg_one hY0 (by rw [B_eq]; exact hY)] at hy
    obtain ⟨ox, cx, rfl, _, _⟩ := wd_form hx
    obtain ⟨oy, cy, rfl, _, _⟩ := wd_form hy
    clear hs hx hy
    go_enter_defers Tryz.func71, Tryz.ntmps71
    go_wp2_with fail
    refine HC.out.mono ?_
    rintro e w1 ⟨v', S', rfl, r1, r2, r3⟩
    go_wp2_with fail
    exact ⟨_, results_tmp rfl _ _ _, v', S', rfl, r1, r2, r3⟩

theorem ptr_eql (b b' : Nat) (cs cs' : Array Value) (w : World) (hne : b ≠ b') (h : Blk w b cs 62) (h' : Blk w b' cs' 62) :
    (binOp .eql 49 (.pointer (some ⟨b, 0, none⟩)) (.pointer (some ⟨b', 0, none⟩))).run Tryz.prog w = .ok (.bool false) w := by
  obtain ⟨j, hj, hs⟩ := Option.map_eq_some_iff.1 infoI
  have h : ∀ d : Nat, (Op.equalIn (d + 1) 49 (.pointer (some ⟨b, 0, none⟩)) (.pointer (some ⟨b', 0, none⟩))).run Tryz.prog w = .ok false w := fun d => by
    simp [Op.equalIn, run_underlying Tryz.underlying49, sizeOf, typeInfo, hj, hs, run_sameAddr_other w (a := ⟨b, 0, none⟩) (b := ⟨b', 0, none⟩) (by simp) h h']
  simp only [binOp]
  simp [Op.equal, Op.maxDepth, h 9999]

theorem mul_neg_iff (x y : Int) (h : x.natAbs * y.natAbs ≠ 0) : decide (x * y < 0) = (decide (x < 0) != decide (y < 0)) := by
  have hx : x ≠ 0 := fun e => h (by rw [e]; simp)
  have hy : y ≠ 0 := fun e => h (by rw [e]; simp)
  by_cases h1 : x < 0 <;> by_cases h2 : y < 0
  · have := Int.mul_pos_of_neg_of_neg h1 h2
    simp [h1, h2]; omega
  · have := Int.mul_neg_of_neg_of_pos h1 (show 0 < y by omega)
    simp [h1, h2, this]
  · have := Int.mul_neg_of_pos_of_neg (show 0 < x by omega) h2
    simp [h1, h2, this]
  · have := Int.mul_pos (show 0 < x by omega) (show 0 < y by omega)
    simp [h1, h2]; omega

set_option maxRecDepth 100000 in
set_option maxHeartbeats 1000000 in
theorem imul_any (bz bx bY : Nat) (z x y : Int) (S T U : List Nat) (w : World) (hz : IntF w bz z S) (hx : IntF w bx x T) (hy : IntF w bY y U) (hxy : bx ≠ bY)
    (hX : x.natAbs < 18446744073709551616) (hY : y.natAbs < 18446744073709551616) :
    Calls Tryz.prog 43 #[.pointer (some ⟨bz, 0, none⟩), .pointer none, .pointer (some ⟨bx, 0, none⟩), .pointer (some ⟨bY, 0, none⟩)] w fun e w' => e = .returned (.tuple #[]) ∧ ∃ S', IntF w' bz (x * y) S' ∧ (∀ k, k ∈ S' → k ∈ S ∨ w.heap.size ≤ k) ∧ Chg S w w' := by
  obtain ⟨oz, cz, Tz, hz0, hz1, hzw, rfl, hzb⟩ := hz.cells
  obtain ⟨ox, cx, Tx, hx0, hx1, hxw, rfl, hxb⟩ := hx.cells
  obtain ⟨oy, cy, Ty, hy0, hy1, hyw, rfl, hyb⟩ := hy.cells
  have hsto := hzw.sto
  have hnz := hzw.notIn hzb
  have hnx := hzw.notIn hxb
  have hny := hzw.notIn hyb
  have hp := ptr_eql bx bY _ _ w hxy hxb hyb
  go_enter Tryz.func43, Tryz.ntmps43
  go_upto_region 3 with fail
  go_cut [41] (fun _ wx => StoredAbs w bz Tz (x.natAbs * y.natAbs) wx)
  case first =>
    go_region_with (first | (go_at_call 71; refine (nmul_one _ _ _ _ _ _ x.natAbs y.natAbs w.drew (by exact hsto) (by exact hxw) hX (by exact hyw) hY).mono ?_; rintro e w1 ⟨v', S', rfl, hw1, hS1, hc1⟩; have q1 := Blk.chg (w := w.drew) hzb hc1 hnz; obtain ⟨q2, q3, q4, q5⟩ := q1.two; obtain ⟨o1, cap1, rfl, hl1, hl2⟩ := wd_form hw1))
    all_goals (go_wp2_with fail; go_meet; exact ⟨w1, o1, cap1, S', hw1, hS1, (Chg.refl _ _).drew.trans hc1, rfl⟩)
  case rest =>
    obtain ⟨w1, o1, cap1, S', hw1, hS1, hc1, rfl⟩ := hcut
    have q1 := hzb.chg hc1 hnz
    obtain ⟨q2, q3, q4, q5⟩ := q1.two
    obtain ⟨q6, q7, _, _⟩ := (hxb.chg hc1 hnx).two
    obtain ⟨q8, q9, _, _⟩ := (hyb.chg hc1 hny).two
    have HN := fun h => Lib.hid (mul_neg_iff x y h)
    have hA : (x * y).natAbs = x.natAbs * y.natAbs := Int.natAbs_mul x y
    have fin : ∀ wz, wz = w1.setCell ⟨bz, 1, none⟩ (.slice o1 (dg (x.natAbs * y.natAbs)).length cap1) → ∀ nb, nb = decide (x * y < 0) → ∃ S', IntF ((wz.setCell ⟨bz, 0, none⟩ (.bool nb)).drew) bz (x * y) S' ∧ (∀ k, k ∈ S' → k ∈ bz :: Tz ∨ w.heap.size ≤ k) ∧ Chg (bz :: Tz) w ((wz.setCell ⟨bz, 0, none⟩ (.bool nb)).drew) := by
      intro wz hwz nb hnb
      subst hwz
      rw [← hA] at hw1 ⊢
      refine ⟨bz :: S', intF_stored q1 hw1 hnb, ?_, ?_⟩
      · intro k hk
        rcases List.mem_cons.1 hk with rfl | hk
        · exact .inl (by simp)
        · rcases hS1 k hk with h | h
          · exact .inl (List.mem_cons_of_mem _ h)
          · exact .inr h
      · exact (((hc1.mono fun x hx => List.mem_cons_of_mem _ hx).setCell (.inl (by simp)) _).setCell (.inl (by simp)) _).drew
    have FIN := Lib.hid fin
    clear fin hX hY hw1
    obtain ⟨nx, hnx'⟩ : ∃ b, decide (x < 0) = b := ⟨_, rfl⟩
    obtain ⟨ny, hny'⟩ : ∃ b, decide (y < 0) = b := ⟨_, rfl⟩
    rw [hnx'] at q6
    rw [hny'] at q8
    have HXY := Lib.hid hA
    clear hA
    obtain ⟨N, hN⟩ : ∃ N, x.natAbs * y.natAbs = N := ⟨_, rfl⟩
    rw [hN] at FIN HN HXY ⊢
    rw [hnx', hny'] at HN
    clear hN hnx' hny'
    by_cases hQ0 : N = 0
    · have hl : (dg N).length = 0 := by rw [hQ0, dg_zero]; rfl
      have hz0 : x * y = 0 := Int.natAbs_eq_zero.1 (HXY.out.trans hQ0)
      rw [hl]
      have HF := FIN.out _ rfl false (by rw [hz0]; rfl)
      rw [hl] at HF
      have HF' := Lib.hid HF
      clear HF hl hz0 hQ0 HN FIN HXY
      go_wp2_with fail
      go_region
      all_goals
        go_wp2
        go_end0
        exact ⟨rfl, HF'.out⟩
    · have hN := (HN hQ0).out
      obtain ⟨l, hl⟩ : ∃ l, (dg N).length = l + 1 := ⟨(dg N).length - 1, by rw [dg_pos hQ0]; simp⟩
      rw [hl]
      have HF := FIN.out _ rfl (nx != ny) hN.symm
      rw [hl] at HF
      have HF' := Lib.hid HF
      clear HF hl hQ0 HN FIN HXY hN
      go_wp2_with fail
      go_region
      all_goals
        go_wp2
        go_end0
        exact ⟨rfl, HF'.out⟩

set_option maxRecDepth 100000 in
theorem mul_any (bz bx bY : Nat) (z x y : Int) (S T U : List Nat) (w : World) (hz : IntF w bz z S) (hx : IntF w bx x T) (hy : IntF w bY y U) (hxy : bx ≠ bY)
    (hX : x.natAbs < 18446744073709551616) (hY : y.natAbs < 18446744073709551616) :
    Calls Tryz.prog 28 #[.pointer (some ⟨bz, 0, none⟩), .pointer (some ⟨bx, 0, none⟩), .pointer (some ⟨bY, 0, none⟩)] w (IntRes w bz S (x * y)) := by
  go_enter Tryz.func28, Tryz.ntmps28
  go_wp2_with fail
  refine (imul_any bz bx bY z x y S T U w hz hx hy hxy hX hY).mono ?_
  rintro e w1 ⟨rfl, S', h1, h2, h3⟩
  go_wp2_with fail
  go_ret
  exact ⟨S', rfl, h1, h2, h3⟩
end Go.Proofs.YtggoncneinlpgaaGreatDoor
