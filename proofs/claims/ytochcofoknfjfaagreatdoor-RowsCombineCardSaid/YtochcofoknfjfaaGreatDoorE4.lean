/- Walks of the law's coded: at nil, at a sentinel. -/
import Derived.Test.YtochcofoknfjfaaGreatDoorE3
namespace Go.Proofs.YtochcofoknfjfaaGreatDoor
open Go Go.RowKit

set_option maxRecDepth 100000 in
set_option maxHeartbeats 1000000 in
theorem coded_nil (d : Int) (w : World) : Calls Tryz.prog 19 #[.nilIface, .int .i64 d] w fun e w' => e = .returned (.bool (decide (0 = d))) ∧ w' = w := by
  by_cases hd : 0 = d
  · subst hd
    go_enter Tryz.func19, Tryz.ntmps19
    go_wp2_with fail
    refine (code_nil _).mono ?_
    rintro e w1 ⟨rfl, rfl⟩
    go_wp2_with fail
    go_ret
    exact ⟨rfl, rfl⟩
  · have hb : ((0 : Int) == d) = false := by simpa using hd
    have HR := Lib.hid (show decide (0 = d) = false by simpa using hd)
    clear hd
    go_enter Tryz.func19, Tryz.ntmps19
    go_wp2_with fail
    refine (code_nil _).mono ?_
    rintro e w1 ⟨rfl, rfl⟩
    go_wp2_with fail
    go_ret
    exact ⟨by rw [HR.out]; rfl, rfl⟩

set_option maxRecDepth 100000 in
set_option maxHeartbeats 1000000 in
theorem coded_sent (x : Addr) (i : Nat) (hi : i ≤ 8) (a : Nat → Addr) (d : Int) (w : World) (he : ErrW w a) (heq : i < 8 → x = a i) (hne : ∀ k, k < 8 → k ≠ i → x ≠ a k) (hx : ∃ c t, w.heap[x.block]? = some (.cells c t (0, 0))) :
    Calls Tryz.prog 19 #[.iface 315 (.pointer (some x)), .int .i64 d] w fun e w' => e = .returned (.bool (decide (codeZ i = d))) ∧ Below w.heap.size w w' := by
  have HC := Lib.hid (code_sent x i hi a w he heq hne hx)
  clear he heq hne hx hi
  obtain ⟨c, hc⟩ : ∃ c, codeZ i = c := ⟨_, rfl⟩
  rw [hc] at HC ⊢
  clear hc
  by_cases hd : c = d
  · subst hd
    go_enter Tryz.func19, Tryz.ntmps19
    go_wp2_with fail
    refine HC.out.mono ?_
    rintro e w1 ⟨rfl, hb1⟩
    go_wp2_with fail
    go_ret
    exact ⟨by simp, hb1⟩
  · have hb : (c == d) = false := by simpa using hd
    have HR := Lib.hid (show decide (c = d) = false by simpa using hd)
    clear hd
    go_enter Tryz.func19, Tryz.ntmps19
    go_wp2_with fail
    refine HC.out.mono ?_
    rintro e w1 ⟨rfl, hb1⟩
    go_wp2_with fail
    go_ret
    exact ⟨by rw [HR.out]; rfl, hb1⟩

theorem ErrW.drew {w : World} {a : Nat → Addr} (h : ErrW w a) : ErrW w.drew a := ⟨h.et, h.var, h.str, h.blk, h.ne⟩
theorem ErrW.drewN {w : World} {a : Nat → Addr} (h : ErrW w a) (n : Nat) : ErrW (w.drewN n) a := ⟨h.et, h.var, h.str, h.blk, h.ne⟩

/-- At the i-th sentinel. -/
theorem coded_err (i : Nat) (hi : i < 8) (a : Nat → Addr) (d : Int) (w : World) (he : ErrW w a) :
    Calls Tryz.prog 19 #[sentV a i, .int .i64 d] w fun e w' => e = .returned (.bool (decide ((i : Int) + 1 = d))) ∧ Below w.heap.size w w' := by
  have h := coded_sent (a i) i (by omega) a d w he (fun _ => rfl) (fun k hk hne => he.ne i k hi hk (fun e => hne e.symm)) (he.blk i hi)
  unfold codeZ at h
  rw [if_pos hi] at h
  exact h
end Go.Proofs.YtochcofoknfjfaaGreatDoor
