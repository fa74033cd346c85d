/- Walks: low64, Int.Int64, Int.CmpAbs, Int.Cmp, bits.Div64, bits.Div. -/
import Derived.Test.YtochcofoknfjfaaGreatDoorW4
namespace Go.Proofs.YtochcofoknfjfaaGreatDoor
open Go Go.RowKit Nt

set_option maxRecDepth 100000 in
set_option maxHeartbeats 400000 in
theorem low64_any (v : Value) (N : Nat) (S : List Nat) (w : World) (h : Wd w v (dg N) S) :
    Calls Tryz.prog 67 #[v] w fun e w' => e = .returned (.int .u64 (N % B : Nat)) ∧ w' = w := by
  by_cases h0 : N = 0
  · subst h0
    rw [dg_zero] at h
    obtain ⟨o, cap, rfl, h1, h2⟩ := wd_form h
    go_enter Tryz.func67, Tryz.ntmps67
    go_wp2
    go_ret
    exact ⟨rfl, rfl⟩
  · have hd := dg_pos h0
    rcases h with ⟨_, _, h⟩ | ⟨a, cap, cs, rfl, rfl, h1, h2, h3, hb, hc⟩
    · rw [hd] at h; cases h
    have hlen : 0 < (dg N).length := by rw [hd]; simp
    have hc0 : w.cell? ⟨a, 0, none⟩ = some (.int .u64 (N % B : Nat)) := by
      rw [hb.cell, hc 0 hlen]
      simp [hd]
    clear hc hb hd
    generalize (dg N).length = l at *
    generalize N % B = r at *
    have hl0 : ((l : Int) == 0) = false := by simp; omega
    go_enter Tryz.func67, Tryz.ntmps67
    go_wp2
    go_ret
    exact ⟨rfl, rfl⟩

set_option maxRecDepth 100000 in
set_option maxHeartbeats 400000 in
theorem int64_any (b : Nat) (z : Int) (S : List Nat) (w : World) (h : IntF w b z S) (h0 : -4611686018427387904 ≤ z) (h1 : z ≤ 4611686018427387904) :
    Calls Tryz.prog 37 #[.pointer (some ⟨b, 0, none⟩)] w fun e w' => e = .returned (.int .i64 z) ∧ w' = w := by
  obtain ⟨o, cap, T, hc0, hc1, hw, _⟩ := h.cells
  have hm : z.natAbs % B = z.natAbs := Nat.mod_eq_of_lt (by rw [B_eq]; omega)
  have hcall := low64_any _ _ _ w hw
  rw [hm] at hcall
  clear hm
  generalize (dg z.natAbs).length = l at *
  obtain ⟨n, hn⟩ : ∃ n, z.natAbs = n := ⟨_, rfl⟩
  rw [hn] at hcall
  have hnb : (n : Int) ≤ 4611686018427387904 := by omega
  have HN := Lib.hid hn
  have HC := Lib.hid hcall
  clear hn hcall
  by_cases hz : z < 0
  · have hd : decide (z < 0) = true := by simp [hz]
    rw [hd] at hc0
    have HZ := Lib.hid (show -(n : Int) = z by have := HN.out; omega)
    clear hz hd h0 h1
    go_enter Tryz.func37, Tryz.ntmps37
    go_wp2_with (go_at_call 67; refine HC.out.mono ?_; rintro e w' ⟨rfl, rfl⟩)
    go_ret
    exact ⟨by rw [← HZ.out]; rfl, rfl⟩
  · have hd : decide (z < 0) = false := by simp [hz]
    rw [hd] at hc0
    have HZ := Lib.hid (show (n : Int) = z by have := HN.out; omega)
    clear hz hd h0 h1
    go_enter Tryz.func37, Tryz.ntmps37
    go_wp2_with (go_at_call 67; refine HC.out.mono ?_; rintro e w' ⟨rfl, rfl⟩)
    go_ret
    exact ⟨by rw [← HZ.out]; rfl, rfl⟩

set_option maxRecDepth 100000 in
set_option maxHeartbeats 400000 in
theorem cmpAbs_any (bx bY : Nat) (x y : Int) (S T : List Nat) (w : World) (hx : IntF w bx x S) (hy : IntF w bY y T) :
    Calls Tryz.prog 56 #[.pointer (some ⟨bx, 0, none⟩), .pointer (some ⟨bY, 0, none⟩)] w fun e w' => e = .returned (.int .i64 (cmpI x.natAbs y.natAbs)) ∧ ∃ m, w' = w.drewN m := by
  obtain ⟨ox, cx, Tx, hx0, hx1, hxw, _⟩ := hx.cells
  obtain ⟨oy, cy, Ty, hy0, hy1, hyw, _⟩ := hy.cells
  go_enter Tryz.func56, Tryz.ntmps56
  go_wp2_with fail
  go_quiet ((go_at_call 70; exact Calls.quiet_of (ncmp_any _ _ x.natAbs y.natAbs _ _ _ (by exact hxw) (by exact hyw))))
  go_wp2
  go_ret
  exact ⟨rfl, _, rfl⟩

/-! ### bits.Div -/
set_option maxRecDepth 100000 in
set_option maxHeartbeats 400000 in
theorem div64_any (x y : Nat) (w : World) (hx : x < 18446744073709551616) (hy0 : 0 < y) (hy : y < 18446744073709551616) :
    Calls Tryz.prog 164 #[.int .u64 0, .int .u64 x, .int .u64 y] w fun e w' => e = .returned (.tuple #[.int .u64 ((x / y : Nat) : Int), .int .u64 ((x % y : Nat) : Int)]) ∧ ∃ m, w' = w.drewN m := by
  have h1 : ((y : Int) == 0) = false := by simp; omega
  have h2 : decide ((y : Int) ≤ 0) = false := by simp; omega
  have h3 : (0 : Int) < y := by omega
  go_enter Tryz.func164, Tryz.ntmps164
  go_wp2_with fail
  go_quiet (fail)
  go_wp2
  go_ret2
  have e1 : IntKind.u64.wrap ((x : Int) / (y : Int)) = ((x / y : Nat) : Int) := by
    rw [← Int.natCast_ediv, IntKind.wrap_u64]
    have : x / y ≤ x := Nat.div_le_self x y
    generalize x / y = q at *
    omega
  have e2 : ((x : Int) % (y : Int)) = ((x % y : Nat) : Int) := by omega
  exact ⟨by rw [← e1, ← e2]; rfl, _, rfl⟩

set_option maxRecDepth 100000 in
set_option maxHeartbeats 400000 in
theorem div_any (x y : Nat) (w : World) (hx : x < 18446744073709551616) (hy0 : 0 < y) (hy : y < 18446744073709551616) :
    Calls Tryz.prog 147 #[.int .u64 0, .int .u64 x, .int .u64 y] w fun e w' => e = .returned (.tuple #[.int .u64 ((x / y : Nat) : Int), .int .u64 ((x % y : Nat) : Int)]) ∧ ∃ m, w' = w.drewN m := by
  have HC := fun w => Lib.hid (div64_any x y w hx hy0 hy)
  go_enter Tryz.func147, Tryz.ntmps147
  go_wp2_with (go_at_call 164; refine (HC _).out.mono ?_; rintro e w' ⟨rfl, m, rfl⟩)
  go_ret2
  exact ⟨rfl, _, rfl⟩

/-! ### Cmp -/
def cmpZ (a b : Int) : Int := if a < b then -1 else if a = b then 0 else 1

end Go.Proofs.YtochcofoknfjfaaGreatDoor
