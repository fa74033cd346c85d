/- Walks: divWVW, nat.divW, nat.div, Int.Quo, at one word. -/
import Derived.Test.YtochcofoknfjfaaGreatDoorW5
namespace Go.Proofs.YtochcofoknfjfaaGreatDoor
open Go Go.RowKit Nt

set_option maxRecDepth 100000 in
set_option maxHeartbeats 400000 in
theorem divWVW_one (a cap ax cx X Y : Nat) (cs : Array Value) (w : World) (hb : Blk w a cs 91) (h1 : 1 ≤ cs.size) (hx : w.cell? ⟨ax, 0, none⟩ = some (.int .u64 X)) (hX : X < 18446744073709551616) (hY0 : 0 < Y) (hY : Y < 18446744073709551616) :
    Calls Tryz.prog 121 #[.slice (some ⟨a, 0, none⟩) 1 cap, .int .u64 0, .slice (some ⟨ax, 0, none⟩) 1 cx, .int .u64 Y] w fun e w' => e = .returned (.int .u64 ((X % Y : Nat) : Int)) ∧
      ∃ cs', Blk w' a cs' 91 ∧ cs'.size = cs.size ∧ cs'[0]? = some (.int .u64 ((X / Y : Nat) : Int)) ∧ Chg [a] w w' := by
  have HC := fun w => Lib.hid (div_any X Y w hX hY0 hY)
  have f0 := (hb.cell 0).trans (show cs[0]? = some (cs[0]'(by omega)) by simp)
  have g0 := hb.free 0
  generalize cs[0]'(by omega) = c0 at *
  go_enter Tryz.func121, Tryz.ntmps121
  go_wp2_with (go_at_call 147; refine (HC _).out.mono ?_; rintro e w' ⟨rfl, m, rfl⟩)
  go_ret
  obtain ⟨cs', hb', hs', hs0, _⟩ := Blk.of_set (w := w.drewN m) (i := 0) hb (.int .u64 ((X / Y : Nat) : Int)) (by omega)
  exact ⟨rfl, cs', hb', hs', hs0, ((Chg.refl _ _).drewN m).setCell (.inl (by simp)) _⟩

theorem dg_len_one {X : Nat} (h0 : X ≠ 0) (h : X < 18446744073709551616) : dg X = [X] := dg_one h0 (by rw [B_eq]; omega)

/-- What a division of words leaves: the quotient, its first result. -/
def DivRes (w : World) (S : List Nat) (Q R : Nat) (e : Ending) (w' : World) : Prop :=
  ∃ v S', e = .returned (.tuple #[v, .int .u64 R]) ∧ Wd w' v (dg Q) S' ∧ (∀ k, k ∈ S' → k ∈ S ∨ w.heap.size ≤ k) ∧ Chg S w w'

set_option maxRecDepth 100000 in
set_option maxHeartbeats 400000 in
theorem divW_one (v x : Value) (S T : List Nat) (X Y : Nat) (w : World) (hs : Sto w v S) (hx : Wd w x (dg X) T) (hX : X < 18446744073709551616) (hY0 : 0 < Y) (hY : Y < 18446744073709551616) :
    Calls Tryz.prog 92 #[v, x, .int .u64 Y] w (DivRes w S (X / Y) (X % Y)) := by
  have hy0 : ((Y : Int) == 0) = false := by simp; omega
  by_cases hY1 : Y = 1
  · subst hY1
    rw [Nat.div_one, Nat.mod_one]
    have hl : (dg X).length ≤ 1000000 := by have := @dg_length_le X 1 (by rw [B_eq]; omega); omega
    obtain ⟨ox, cx, rfl, _, _⟩ := wd_form hx
    go_enter Tryz.func92, Tryz.ntmps92
    go_wp2_with fail
    refine (nset_any v _ S T (dg X) w hs hx hl).mono ?_
    rintro e w1 ⟨v', S', rfl, h1, h2, h3⟩
    go_wp2
    go_ret2
    exact ⟨_, S', rfl, h1, h2, h3⟩
  · have hy1 : ((Y : Int) == 1) = false := by simp; omega
    by_cases hX0 : X = 0
    · subst hX0
      rw [Nat.zero_div, Nat.zero_mod]
      rw [dg_zero] at hx
      obtain ⟨ox, cx, rfl, _, _⟩ := wd_form hx
      obtain ⟨o, n, cap, rfl, hw⟩ := wd_nil hs
      have hbd := sto_bounds hs
      go_enter Tryz.func92, Tryz.ntmps92
      go_wp2
      go_ret2
      exact ⟨_, S, rfl, hw, fun k hk => .inl hk, Chg.refl _ _⟩
    · rw [dg_len_one hX0 hX] at hx
      rcases hx with ⟨_, _, h⟩ | ⟨ax, cx, csx, rfl, rfl, h1, h2, h3, hbx, hc⟩
      · cases h
      have hx0 : w.cell? ⟨ax, 0, none⟩ = some (.int .u64 X) := (hbx.cell 0).trans (hc 0 (by simp))
      go_enter Tryz.func92, Tryz.ntmps92
      go_wp2_with fail
      refine (make_any v S 1 w hs (by omega) (by omega)).mono ?_
      rintro e w1 ⟨a, cap, cs, rfl, h1', h2', h3', hb, ha, hc1, hq⟩
      have hx1 : w1.cell? ⟨ax, 0, none⟩ = some (.int .u64 X) := ((hbx.chg hc1 (by simp)).cell 0).trans (hc 0 (by simp))
      have HQ := Lib.hid hq
      clear hq
      go_wp2_with fail
      refine (divWVW_one a cap ax cx X Y cs w1 hb (by omega) hx1 hX hY0 hY).mono ?_
      rintro e w2 ⟨rfl, cs', hb', hs', hs0, hc2⟩
      go_wp2_with fail
      refine (norm_any a cap cs' [X / Y] w2 hb' (by simpa using h1') h2' (by omega) (fun i hi => by
        have : i = 0 := by simpa using hi
        subst this
        simpa using hs0) (Dig.cons (by rw [B_eq]; have := Nat.div_le_self X Y; omega) Dig.nil)).mono ?_
      rintro e w3 ⟨v', rfl, hw3, rfl⟩
      go_wp2
      go_ret2
      have e1 : nv [X / Y] = X / Y := by simp [nv]
      rw [e1] at hw3
      refine ⟨_, [a], rfl, hw3, ?_, ?_⟩
      · intro k hk
        simp at hk; subst hk; exact ha
      · exact (hc1.mono (by simp)).trans' hc2 (by intro k hk; simp at hk; subst hk; exact ha)

/-- What nat.div leaves of its first result. -/
def QuoRes (w : World) (S : List Nat) (Q : Nat) (e : Ending) (w' : World) : Prop :=
  ∃ v v2 S', e = .returned (.tuple #[v, v2]) ∧ Wd w' v (dg Q) S' ∧ (∀ k, k ∈ S' → k ∈ S ∨ w.heap.size ≤ k) ∧ Chg S w w'

set_option maxRecDepth 100000 in
set_option maxHeartbeats 400000 in
theorem ndiv_one (v x y : Value) (S T U : List Nat) (X Y : Nat) (w : World) (hs : Sto w v S) (hx : Wd w x (dg X) T) (hX : X < 18446744073709551616) (hy : Wd w y (dg Y) U) (hY0 : 0 < Y) (hY : Y < 18446744073709551616) :
    Calls Tryz.prog 66 #[v, .pointer none, .slice none 0 0, x, y] w (QuoRes w S (X / Y)) := by
  rw [dg_len_one (by omega) hY] at hy
  rcases hy with ⟨_, _, h⟩ | ⟨ay, cy, csy, rfl, rfl, h1, h2, h3, hby, hc⟩
  · cases h
  have hy0 : w.cell? ⟨ay, 0, none⟩ = some (.int .u64 Y) := (hby.cell 0).trans (hc 0 (by simp))
  go_enter_defers Tryz.func66, Tryz.ntmps66
  go_wp2_with fail
  refine (divW_one v x S T X Y w hs hx hX hY0 hY).mono ?_
  rintro e w1 ⟨v', S', rfl, hw1, hS1, hc1⟩
  go_wp2_with fail
  refine (setWord_any (.slice none 0 0) [] (X % Y) w1 (.inl ⟨rfl, rfl⟩) (by have := Nat.mod_lt X hY0; omega)).mono ?_
  rintro e w2 ⟨v2, S2, rfl, hw2, hS2, hc2⟩
  go_wp2
  exact ⟨_, results_tmp2 rfl _ _ _, v', v2, S', rfl, hw1.to (fun k hk => hc2.block k (hw1.lt k hk) (by simp)), hS1, hc1.trans (hc2.mono (by simp))⟩

end Go.Proofs.YtochcofoknfjfaaGreatDoor
