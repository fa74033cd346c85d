/- Walks: Int.Cmp; (exact.Row).Zero. -/
import Derived.Test.YtggoncneinlpgaaGreatDoorX23
import Derived.Test.YtggoncneinlpgaaGreatDoorW456
import Derived.Test.YtggoncneinlpgaaGreatDoorM3
namespace Go.Proofs.YtggoncneinlpgaaGreatDoor
open Go Go.RowKit Nt

def cmpInt (x y : Int) : Int := if x < y then -1 else if x = y then 0 else 1
theorem cmpInt_neg {x y : Int} (h1 : x < 0) (h2 : y < 0) : cmpInt x y = -cmpI x.natAbs y.natAbs := by
  unfold cmpInt cmpI
  by_cases h : x < y
  · rw [if_pos h, if_neg (by omega), if_neg (by omega)]
  · by_cases e : x = y
    · subst e; simp
    · rw [if_neg h, if_neg e, if_pos (by omega)]; rfl
theorem cmpInt_pos {x y : Int} (h1 : ¬ x < 0) (h2 : ¬ y < 0) : cmpInt x y = cmpI x.natAbs y.natAbs := by
  unfold cmpInt cmpI
  by_cases h : x < y
  · rw [if_pos h, if_pos (by omega)]
  · by_cases e : x = y
    · subst e; simp
    · rw [if_neg h, if_neg e, if_neg (by omega), if_neg (by omega)]

set_option maxRecDepth 100000 in
set_option maxHeartbeats 2000000 in
theorem icmp_any (bx bY : Nat) (x y : Int) (S T : List Nat) (w : World) (hx : IntF w bx x S) (hy : IntF w bY y T) (hxy : bx ≠ bY) :
    Calls Tryz.prog 91 #[.pointer (some ⟨bx, 0, none⟩), .pointer (some ⟨bY, 0, none⟩)] w fun e w' => e = .returned (.int .i64 (cmpInt x y)) ∧ ∃ m, w' = w.drewN m := by
  obtain ⟨ox, cx, Tx, hx0, hx1, hxw, rfl, hxb⟩ := hx.cells
  obtain ⟨oy, cy, Ty, hy0, hy1, hyw, rfl, hyb⟩ := hy.cells
  have hp := ptr_eql bx bY _ _ w hxy hxb hyb
  have HC := Lib.hid (fun m => ncmp_any _ _ x.natAbs y.natAbs _ _ (w.drewN m) (by exact hxw) (by exact hyw))
  clear hx hy hxw hyw hxb hyb hxy
  by_cases h1 : x < 0
  · rw [decide_eq_true h1] at hx0
    by_cases h2 : y < 0
    · rw [decide_eq_true h2] at hy0
      have HR := Lib.hid (cmpInt_neg h1 h2)
      have hb1 : -1 ≤ cmpI x.natAbs y.natAbs := by unfold cmpI; split <;> (try split) <;> omega
      have hb2 : cmpI x.natAbs y.natAbs ≤ 1 := by unfold cmpI; split <;> (try split) <;> omega
      generalize (dg x.natAbs).length = lx at *
      generalize (dg y.natAbs).length = ly at *
      obtain ⟨c, hc⟩ : ∃ c, cmpI x.natAbs y.natAbs = c := ⟨_, rfl⟩
      rw [hc] at HC HR hb1 hb2
      clear hc h1 h2
      go_enter Tryz.func91, Tryz.ntmps91
      go_wp2_with fail
      go_quiet (fail)
      obtain ⟨n1, rfl⟩ : ∃ n1 : Nat, n1 = nq := ⟨_, rfl⟩
      go_wp2_with fail
      go_quiet ((go_at_call 41; refine (HC.out _).mono ?_; rintro e w' ⟨rfl, m, rfl⟩; exact ⟨rfl, _, by rw [World.drewN_drewN, Nat.add_assoc]⟩))
      go_wp2_with fail
      go_ret
      exact ⟨by rw [HR.out]; rfl, _, rfl⟩
    · rw [decide_eq_false h2] at hy0
      have HR := Lib.hid (show cmpInt x y = -1 by unfold cmpInt; rw [if_pos (by omega)])
      clear h1 h2 HC
      go_enter Tryz.func91, Tryz.ntmps91
      go_wp2_with fail
      go_quiet (fail)
      go_wp2_with fail
      go_ret
      exact ⟨by rw [HR.out]; rfl, _, rfl⟩
  · rw [decide_eq_false h1] at hx0
    by_cases h2 : y < 0
    · rw [decide_eq_true h2] at hy0
      have HR := Lib.hid (show cmpInt x y = 1 by unfold cmpInt; rw [if_neg (by omega), if_neg (by omega)])
      clear h1 h2 HC
      go_enter Tryz.func91, Tryz.ntmps91
      go_wp2_with fail
      go_quiet (fail)
      go_wp2_with fail
      go_ret
      exact ⟨by rw [HR.out]; rfl, _, rfl⟩
    · rw [decide_eq_false h2] at hy0
      have HR := Lib.hid (cmpInt_pos h1 h2)
      have hb1 : -1 ≤ cmpI x.natAbs y.natAbs := by unfold cmpI; split <;> (try split) <;> omega
      have hb2 : cmpI x.natAbs y.natAbs ≤ 1 := by unfold cmpI; split <;> (try split) <;> omega
      generalize (dg x.natAbs).length = lx at *
      generalize (dg y.natAbs).length = ly at *
      obtain ⟨c, hc⟩ : ∃ c, cmpI x.natAbs y.natAbs = c := ⟨_, rfl⟩
      rw [hc] at HC HR hb1 hb2
      clear hc h1 h2
      go_enter Tryz.func91, Tryz.ntmps91
      go_wp2_with fail
      go_quiet (fail)
      obtain ⟨n1, rfl⟩ : ∃ n1 : Nat, n1 = nq := ⟨_, rfl⟩
      go_wp2_with fail
      go_quiet ((go_at_call 41; refine (HC.out _).mono ?_; rintro e w' ⟨rfl, m, rfl⟩; exact ⟨rfl, _, by rw [World.drewN_drewN, Nat.add_assoc]⟩))
      go_wp2_with fail
      go_ret
      exact ⟨by rw [HR.out]; rfl, _, rfl⟩

/-- All are 0. -/
def allZ (zs : List Int) : Bool := zs.all (· == 0)
/-- What IndexFunc tells of a row: a place, if there is a number that is not 0; else -1. -/
def IdxRes (zs : List Int) (w : World) (e : Ending) (w' : World) : Prop := ∃ i : Int, e = .returned (.int .i64 i) ∧ decide (0 ≤ i) = !allZ zs ∧ -1 ≤ i ∧ i ≤ 1000000 ∧ w = w'

end Go.Proofs.YtggoncneinlpgaaGreatDoor
