/- Walks: bits.Add, bits.Sub, bits.Mul, mulAddWWW. -/
import Derived.Test.YtggoncneinlpgaaGreatDoorW1
import Derived.Shelf.Bits.Mul64
import Derived.Shelf.Spec.BitsCarry
namespace Go.Proofs.YtggoncneinlpgaaGreatDoor
open Go Go.RowKit Go.Lib

theorem add64_run (x y c : Nat) (hx : x < 18446744073709551616) (hy : y < 18446744073709551616) (hc : c ≤ 1) (w : World) : (callFunc 94 #[.int .u64 x, .int .u64 y, .int .u64 c]).run Tryz.prog w =
    .ok (.value (.tuple #[.int .u64 (((x + y + c) % 18446744073709551616 : Nat) : Int), .int .u64 (((x + y + c) / 18446744073709551616 : Nat) : Int)])) w := by
  rw [run_callFunc_extern Tryz.func94 (by kernel_rfl) (by kernel_rfl) (by kernel_rfl) (e := add64Entry) (by kernel_rfl), run_add64 x y c (by omega) (by omega) (by omega) (by omega)]
  simp only [Result.andThen]
  congr 5 <;> omega
theorem sub64_run (x y b : Nat) (hb : b ≤ 1) (w : World) : (callFunc 96 #[.int .u64 x, .int .u64 y, .int .u64 b]).run Tryz.prog w =
    .ok (.value (.tuple #[.int .u64 (((x + 18446744073709551616 - y - b) % 18446744073709551616 : Nat) : Int), .int .u64 ((if x < y + b then 1 else 0 : Nat) : Int)])) w := by
  rw [run_callFunc_extern Tryz.func96 (by kernel_rfl) (by kernel_rfl) (by kernel_rfl) (e := sub64Entry) (by kernel_rfl), run_sub64 x y b hb]
  rfl

set_option maxRecDepth 100000 in
theorem badd_any (x y c : Nat) (w : World) (hx : x < 18446744073709551616) (hy : y < 18446744073709551616) (hc : c ≤ 1) :
    Calls Tryz.prog 66 #[.int .u64 x, .int .u64 y, .int .u64 c] w fun e w' => e = .returned (.tuple #[.int .u64 (((x + y + c) % 18446744073709551616 : Nat) : Int), .int .u64 (((x + y + c) / 18446744073709551616 : Nat) : Int)]) ∧ ∃ m, w' = w.drewN m := by
  have H := Lib.hid (fun w => add64_run x y c hx hy hc w)
  go_enter Tryz.func66, Tryz.ntmps66
  go_wp2_with (simp only [H.out])
  go_ret2
  exact ⟨rfl, 0, rfl⟩
set_option maxRecDepth 100000 in
theorem bsub_any (x y b : Nat) (w : World) (hb : b ≤ 1) :
    Calls Tryz.prog 69 #[.int .u64 x, .int .u64 y, .int .u64 b] w fun e w' => e = .returned (.tuple #[.int .u64 (((x + 18446744073709551616 - y - b) % 18446744073709551616 : Nat) : Int), .int .u64 ((if x < y + b then 1 else 0 : Nat) : Int)]) ∧ ∃ m, w' = w.drewN m := by
  have H := Lib.hid (fun w => sub64_run x y b hb w)
  obtain ⟨d, hd⟩ : ∃ d : Nat, (x + 18446744073709551616 - y - b) % 18446744073709551616 = d := ⟨_, rfl⟩
  obtain ⟨c, hc⟩ : ∃ c : Nat, (if x < y + b then 1 else 0) = c := ⟨_, rfl⟩
  rw [hd, hc] at H ⊢
  clear hd hc
  go_enter Tryz.func69, Tryz.ntmps69
  go_wp2_with (simp only [H.out])
  go_ret2
  exact ⟨rfl, 0, rfl⟩

set_option maxRecDepth 100000 in
set_option maxHeartbeats 1000000 in
theorem bmul64_any (x y : Nat) (hx : x < 18446744073709551616) (hy : y < 18446744073709551616) (w : World) :
    Calls Tryz.prog 161 #[.int .u64 x, .int .u64 y] w fun e w' => e = .returned (.tuple #[.int .u64 ((x * y / 18446744073709551616 : Nat) : Int), .int .u64 ((x * y % 18446744073709551616 : Nat) : Int)]) ∧ w' = w := by
  obtain ⟨bd, bt, bw, hhi⟩ := Lib.mul64_hi x y hx hy
  have ba := Lib.half_mul_le (a := x / 4294967296) (b := y / 4294967296) (by omega) (by omega)
  have bb := Lib.half_mul_le (a := x / 4294967296) (b := y % 4294967296) (by omega) (by omega)
  have bc := Lib.half_mul_le (a := x % 4294967296) (b := y / 4294967296) (by omega) (by omega)
  have ba' : x / 4294967296 * (y / 4294967296) < 18446744073709551616 := by omega
  have bb' : x / 4294967296 * (y % 4294967296) < 18446744073709551616 := by omega
  have bc' : x % 4294967296 * (y / 4294967296) < 18446744073709551616 := by omega
  have bh1 : x / 4294967296 * (y / 4294967296) + (x / 4294967296 * (y % 4294967296) + x % 4294967296 * (y % 4294967296) / 4294967296) / 4294967296 < 18446744073709551616 := by omega
  have bh : x / 4294967296 * (y / 4294967296) + (x / 4294967296 * (y % 4294967296) + x % 4294967296 * (y % 4294967296) / 4294967296) / 4294967296 + ((x / 4294967296 * (y % 4294967296) + x % 4294967296 * (y % 4294967296) / 4294967296) % 4294967296 + x % 4294967296 * (y / 4294967296)) / 4294967296 < 18446744073709551616 := by omega
  go_enter Tryz.func161, Tryz.ntmps161
  go_wp2
  simp only [Mul64.maskN x hx, Mul64.maskN y hy, Mul64.divN, Mul64.mulN, Mul64.addN, Mul64.wrapN _ bd, Mul64.wrapN _ bb', Mul64.wrapN _ bt, Mul64.maskN _ bt, Mul64.wrapN _ bc', Mul64.wrapN _ bw, Mul64.wrapN _ ba', Mul64.wrapN _ bh1, Mul64.wrapN _ bh, Mul64.wrapM (x * y)]
  rw [hhi]
  go_ret2
  exact ⟨rfl, rfl⟩
set_option maxRecDepth 100000 in
set_option maxHeartbeats 1000000 in
theorem bmul_any (x y : Nat) (hx : x < 18446744073709551616) (hy : y < 18446744073709551616) (w : World) :
    Calls Tryz.prog 133 #[.int .u64 x, .int .u64 y] w fun e w' => e = .returned (.tuple #[.int .u64 ((x * y / 18446744073709551616 : Nat) : Int), .int .u64 ((x * y % 18446744073709551616 : Nat) : Int)]) ∧ w' = w := by
  have HC := Lib.hid (fun w => bmul64_any x y hx hy w)
  go_enter Tryz.func133, Tryz.ntmps133
  go_wp2_with (go_at_call 161; refine (HC.out _).mono ?_; rintro e w' ⟨rfl, rfl⟩)
  go_ret2
  exact ⟨rfl, rfl⟩
/-- x * y + c, of which the sum must be below two words (it always is). -/
theorem muladd_lt (x y c : Nat) (hx : x < 18446744073709551616) (hy : y < 18446744073709551616) (hc : c < 18446744073709551616) :
    x * y / 18446744073709551616 + (x * y % 18446744073709551616 + c) / 18446744073709551616 = (x * y + c) / 18446744073709551616 ∧ (x * y + c) / 18446744073709551616 < 18446744073709551616 := by
  have h : x * y ≤ 18446744073709551615 * 18446744073709551615 := Nat.mul_le_mul (by omega) (by omega)
  generalize x * y = p at *
  omega
set_option maxRecDepth 100000 in
set_option maxHeartbeats 1000000 in
theorem mulAddWWW_any (x y c : Nat) (hx : x < 18446744073709551616) (hy : y < 18446744073709551616) (hc : c < 18446744073709551616) (w : World) :
    Calls Tryz.prog 135 #[.int .u64 x, .int .u64 y, .int .u64 c] w fun e w' => e = .returned (.tuple #[.int .u64 (((x * y + c) / 18446744073709551616 : Nat) : Int), .int .u64 (((x * y + c) % 18446744073709551616 : Nat) : Int)]) ∧ ∃ m, w' = w.drewN m := by
  obtain ⟨HE, HL⟩ := muladd_lt x y c hx hy hc
  have HB := Lib.hid (fun w => bmul_any x y hx hy w)
  have HM : x * y % 18446744073709551616 < 18446744073709551616 := Nat.mod_lt _ (by omega)
  have HR : (x * y + c) % 18446744073709551616 = (x * y % 18446744073709551616 + c) % 18446744073709551616 := by omega
  rw [HR]
  rw [← HE] at HL ⊢
  clear HE HR
  obtain ⟨hi, hhi⟩ : ∃ q, x * y / 18446744073709551616 = q := ⟨_, rfl⟩
  obtain ⟨lo, hlo⟩ : ∃ q, x * y % 18446744073709551616 = q := ⟨_, rfl⟩
  rw [hhi, hlo] at HB HL ⊢
  rw [hlo] at HM
  clear hhi hlo
  have HA := Lib.hid (fun w => badd_any lo c 0 w HM hc (by omega))
  obtain ⟨s, hs⟩ : ∃ q, (lo + c + 0) % 18446744073709551616 = q := ⟨_, rfl⟩
  obtain ⟨cc, hcc⟩ : ∃ q, (lo + c + 0) / 18446744073709551616 = q := ⟨_, rfl⟩
  rw [hs, hcc] at HA
  rw [Nat.add_zero] at hs hcc
  rw [hs, hcc]
  rw [hcc] at HL
  clear hs hcc HM
  go_enter Tryz.func135, Tryz.ntmps135
  go_wp2_with fail
  refine (HB.out _).mono ?_
  rintro e w' ⟨rfl, rfl⟩
  go_wp2_with fail
  refine (HA.out _).mono ?_
  rintro e w' ⟨rfl, m, rfl⟩
  go_wp2_with fail
  go_ret2
  exact ⟨by rw [Int.natCast_add]; rfl, m, rfl⟩
end Go.Proofs.YtggoncneinlpgaaGreatDoor
