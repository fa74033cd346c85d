/- Walks: mulAddVWW at one word, nat.mulAddWW, nat.mul, Int.Mul at numbers of one word. -/
import Derived.Test.YtggoncneinlpgaaGreatDoorM1
import Derived.Test.YtggoncneinlpgaaGreatDoorW456
import Derived.Laws.Twins
namespace Go.Proofs.YtggoncneinlpgaaGreatDoor
open Go Go.RowKit Nt

set_option maxRecDepth 100000 in
set_option maxHeartbeats 1000000 in
theorem mulAddVWW_one (a cap ax cx X Y R : Nat) (cs : Array Value) (w : World) (hb : Blk w a cs 80) (h1 : 1 ≤ cs.size) (hx : w.cell? ⟨ax, 0, none⟩ = some (.int .u64 X)) (hX : X < 18446744073709551616) (hY : Y < 18446744073709551616) (hR : R < 18446744073709551616) :
    Calls Tryz.prog 33 #[.slice (some ⟨a, 0, none⟩) 1 cap, .slice (some ⟨ax, 0, none⟩) 1 cx, .int .u64 Y, .int .u64 R] w fun e w' => e = .returned (.int .u64 (((X * Y + R) / 18446744073709551616 : Nat) : Int)) ∧
      ∃ cs', Blk w' a cs' 80 ∧ cs'.size = cs.size ∧ cs'[0]? = some (.int .u64 (((X * Y + R) % 18446744073709551616 : Nat) : Int)) ∧ (∀ j, j ≠ 0 → cs'[j]? = cs[j]?) ∧ Chg [a] w w' := by
  have HC := Lib.hid (fun w => mulAddWWW_any X Y R hX hY hR w)
  obtain ⟨q, hq⟩ : ∃ q, (X * Y + R) / 18446744073709551616 = q := ⟨_, rfl⟩
  obtain ⟨r, hr⟩ : ∃ r, (X * Y + R) % 18446744073709551616 = r := ⟨_, rfl⟩
  rw [hq, hr] at HC ⊢
  clear hq hr
  have f0 := (hb.cell 0).trans (show cs[0]? = some (cs[0]'(by omega)) by simp)
  have g0 := hb.free 0
  generalize cs[0]'(by omega) = c0 at *
  go_enter Tryz.func33, Tryz.ntmps33
  go_wp2_with fail
  refine wp_loop_rounds 2 ?_
  rw [rounds_succ]
  go_wp2_with fail
  refine (HC.out _).mono ?_
  rintro e w1 ⟨rfl, m, rfl⟩
  go_wp2_with fail
  rw [rounds_succ]
  go_wp2_with fail
  go_ret
  obtain ⟨cs', hb', hs', hs0, ho⟩ := Blk.of_set (w := w.drewN m) (i := 0) hb (.int .u64 (r : Int)) (by omega)
  exact ⟨rfl, cs', hb', hs', hs0, ho, ((Chg.refl _ _).drewN m).setCell (.inl (by simp)) _⟩

theorem mulAddVWW_enters (args : Array Value) (w : World) : (callFunc 140 args).run Tryz.prog w = .ok (.enter 33 args) w :=
  run_callFunc_twin (twin := "math/big.mulAddVWW_g") Tryz.func140 (by kernel_rfl) (by kernel_rfl) (by kernel_rfl) (by kernel_rfl) Tryz.func33 (by kernel_rfl) (by kernel_rfl) (by kernel_rfl) args w

set_option maxRecDepth 100000 in
set_option maxHeartbeats 1000000 in
theorem mulAddWW_one (v x : Value) (S T : List Nat) (X Y : Nat) (w : World) (hs : Sto w v S) (hx : Wd w x (dg X) T) (hX0 : X ≠ 0) (hX : X < 18446744073709551616) (hY0 : Y ≠ 0) (hY : Y < 18446744073709551616) :
    Calls Tryz.prog 104 #[v, x, .int .u64 Y, .int .u64 0] w (NatRes w S (X * Y)) := by
  have hen := mulAddVWW_enters
  have hy0 : ((Y : Int) == 0) = false := by simp; omega
  rw [dg_one hX0 (by rw [B_eq]; exact hX)] at hx
  rcases hx with ⟨_, _, h⟩ | ⟨ax, cx, csx, rfl, rfl, h1, h2, h3, hbx, hc⟩
  · cases h
  have hx0 : w.cell? ⟨ax, 0, none⟩ = some (.int .u64 X) := (hbx.cell 0).trans (hc 0 (by simp))
  have HM := Lib.hid (fun (a cap : Nat) (cs : Array Value) (w : World) hb h1 hx => mulAddVWW_one a cap ax cx X Y 0 cs w hb h1 hx hX hY (by omega))
  have hlt : X * Y < 18446744073709551616 * 18446744073709551616 := Nat.mul_lt_mul'' hX hY
  simp only [Nat.add_zero] at HM
  obtain ⟨P, hP⟩ : ∃ P, X * Y = P := ⟨_, rfl⟩
  rw [hP] at HM hlt ⊢
  clear hP
  have HNV := Lib.hid (show nv [P % 18446744073709551616, P / 18446744073709551616] = P by
    simp only [nv, B_eq]; omega)
  have HD : Dig [P % 18446744073709551616, P / 18446744073709551616] := by
    refine Dig.cons (by rw [B_eq]; exact Nat.mod_lt _ (by omega)) (Dig.cons ?_ Dig.nil)
    rw [B_eq]
    omega
  obtain ⟨lo, hlo⟩ : ∃ r, P % 18446744073709551616 = r := ⟨_, rfl⟩
  obtain ⟨hi, hhi⟩ : ∃ r, P / 18446744073709551616 = r := ⟨_, rfl⟩
  rw [hlo, hhi] at HNV HD HM
  clear hlo hhi hlt
  go_enter Tryz.func104, Tryz.ntmps104
  go_wp2_with fail
  refine (make_any v S 2 w hs (by omega) (by omega)).mono ?_
  rintro e w1 ⟨a, cap, cs, rfl, h1', h2', h3', hb, ha, hc1, hq⟩
  have hx1 : w1.cell? ⟨ax, 0, none⟩ = some (.int .u64 X) := ((hbx.chg hc1 (by simp)).cell 0).trans (hc 0 (by simp))
  clear hq
  go_wp2_with fail
  refine (HM.out a cap cs w1 hb (by omega) hx1).mono ?_
  rintro e w2 ⟨rfl, cs', hb', hs', hs0, ho, hc2⟩
  have f1 := (hb'.cell 1).trans (show cs'[1]? = some (cs'[1]'(by omega)) by simp)
  have g1 := hb'.free 1
  obtain ⟨cs2, hb2, hs2, hs21, ho2⟩ := Blk.of_set (w := w2) (i := 1) hb' (.int .u64 (hi : Int)) (by omega)
  have HCC : Cells cs2 [lo, hi] := fun i hi => by
    match i, hi with
    | 0, _ => rw [ho2 0 (by omega)]; exact hs0
    | 1, _ => exact hs21
  go_wp2_with fail
  refine (norm_any a cap cs2 [lo, hi] _ hb2 (by simpa using h1') h2' (by omega) HCC HD).mono ?_
  rintro e w3 ⟨v', rfl, hw3, rfl⟩
  rw [HNV.out] at hw3
  go_wp2
  go_ret
  refine ⟨_, [a], rfl, hw3, ?_, ?_⟩
  · intro k hk
    simp at hk; subst hk; exact ha
  · exact ((hc1.mono (by simp)).trans' hc2 (by intro k hk; simp at hk; subst hk; exact ha)).setCell ha _
end Go.Proofs.YtggoncneinlpgaaGreatDoor
