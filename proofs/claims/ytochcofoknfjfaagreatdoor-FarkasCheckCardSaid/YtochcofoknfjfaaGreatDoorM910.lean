/- Walks: addVV, subVV at two words; nat.add, nat.sub of two numbers of two words. Walk: nat.add, nat.sub of two numbers of at most two words. -/
import Derived.Test.YtochcofoknfjfaaGreatDoorM67
namespace Go.Proofs.YtochcofoknfjfaaGreatDoor
open Go Go.RowKit Nt

set_option maxRecDepth 100000 in
set_option maxHeartbeats 2000000 in
theorem addVV_two (a cap ax cx ay cy x0 x1 y0 y1 : Nat) (cs : Array Value) (w : World) (hb : Blk w a cs 97) (h1 : 2 ≤ cs.size) (hx : w.cell? ⟨ax, 0, none⟩ = some (.int .u64 x0)) (hx' : w.cell? ⟨ax, 1, none⟩ = some (.int .u64 x1)) (hy : w.cell? ⟨ay, 0, none⟩ = some (.int .u64 y0)) (hy' : w.cell? ⟨ay, 1, none⟩ = some (.int .u64 y1))
    (lx0 : x0 < 18446744073709551616) (lx1 : x1 < 18446744073709551616) (ly0 : y0 < 18446744073709551616) (ly1 : y1 < 18446744073709551616) :
    Calls Tryz.prog 62 #[.slice (some ⟨a, 0, none⟩) 2 cap, .slice (some ⟨ax, 0, none⟩) 2 cx, .slice (some ⟨ay, 0, none⟩) 2 cy] w fun e w' => e = .returned (.int .u64 (((x1 + y1 + (x0 + y0) / 18446744073709551616) / 18446744073709551616 : Nat) : Int)) ∧
      ∃ cs', Blk w' a cs' 97 ∧ cs'.size = cs.size ∧ cs'[0]? = some (.int .u64 (((x0 + y0) % 18446744073709551616 : Nat) : Int)) ∧ cs'[1]? = some (.int .u64 (((x1 + y1 + (x0 + y0) / 18446744073709551616) % 18446744073709551616 : Nat) : Int)) ∧ (∀ j, j ≠ 0 → j ≠ 1 → cs'[j]? = cs[j]?) ∧ Chg [a] w w' := by
  have HC := Lib.hid (fun w => badd_any x0 y0 0 w lx0 ly0 (by omega))
  simp only [Nat.add_zero] at HC
  have lq : (x0 + y0) / 18446744073709551616 ≤ 1 := by omega
  have HC2 := Lib.hid (fun w => badd_any x1 y1 ((x0 + y0) / 18446744073709551616) w lx1 ly1 lq)
  obtain ⟨q, hq⟩ : ∃ q, (x0 + y0) / 18446744073709551616 = q := ⟨_, rfl⟩
  obtain ⟨r, hr⟩ : ∃ r, (x0 + y0) % 18446744073709551616 = r := ⟨_, rfl⟩
  rw [hq, hr] at HC ⊢
  rw [hq] at HC2
  clear hq hr lq
  obtain ⟨q1, hq1⟩ : ∃ q1, (x1 + y1 + q) / 18446744073709551616 = q1 := ⟨_, rfl⟩
  obtain ⟨r1, hr1⟩ : ∃ r1, (x1 + y1 + q) % 18446744073709551616 = r1 := ⟨_, rfl⟩
  rw [hq1, hr1] at HC2 ⊢
  clear hq1 hr1
  have f0 := (hb.cell 0).trans (show cs[0]? = some (cs[0]'(by omega)) by simp)
  have g0 := hb.free 0
  have f1 := (hb.cell 1).trans (show cs[1]? = some (cs[1]'(by omega)) by simp)
  have g1 := hb.free 1
  generalize cs[0]'(by omega) = c0 at *
  generalize cs[1]'(by omega) = c1 at *
  go_enter Tryz.func62, Tryz.ntmps62
  go_wp2_with fail
  refine wp_loop_rounds 3 ?_
  rw [rounds_succ]
  go_wp2_with fail
  go_quiet ((go_at_call 106; exact Calls.quiet_of (HC.out _)))
  go_wp2_with fail
  obtain ⟨cs1, hb1, hs1, hs10, ho1⟩ := Blk.of_set (w := w.drewN nq) (i := 0) hb (.int .u64 (r : Int)) (by omega)
  have hxn : ((w.drewN nq).setCell ⟨a, 0, none⟩ (.int .u64 (r : Int))).cell? ⟨ax, 1, none⟩ = some (.int .u64 x1) := (World.cell?_setCell_other _ _ _ _ (by simp)).trans hx'
  have hyn : ((w.drewN nq).setCell ⟨a, 0, none⟩ (.int .u64 (r : Int))).cell? ⟨ay, 1, none⟩ = some (.int .u64 y1) := (World.cell?_setCell_other _ _ _ _ (by simp)).trans hy'
  have hcg : Chg [a] w ((w.drewN nq).setCell ⟨a, 0, none⟩ (.int .u64 (r : Int))) := ((Chg.refl _ _).drewN nq).setCell (.inl (by simp)) _
  obtain ⟨w1, hw1⟩ : ∃ w1, (w.drewN nq).setCell ⟨a, 0, none⟩ (.int .u64 (r : Int)) = w1 := ⟨_, rfl⟩
  rw [hw1] at hb1 hxn hyn hcg ⊢
  have h2 : 2 ≤ cs1.size := by omega
  have f1' := (hb1.cell 1).trans (show cs1[1]? = some (cs1[1]'(by omega)) by simp)
  have g1' := hb1.free 1
  generalize cs1[1]'(by omega) = c1' at *
  clear hw1 f0 g0 f1 g1 hx hy hx' hy' HC
  rw [rounds_succ]
  go_wp2_with fail
  go_quiet ((go_at_call 106; exact Calls.quiet_of (HC2.out _)))
  go_wp2_with fail
  rw [rounds_succ]
  go_wp2_with fail
  go_ret
  obtain ⟨cs', hb', hs', hs0, ho⟩ := Blk.of_set (w := w1.drewN nq) (i := 1) (Blk.drewN hb1 nq) (.int .u64 (r1 : Int)) (by omega)
  exact ⟨rfl, cs', hb', hs'.trans hs1, (ho 0 (by omega)).trans hs10, hs0, fun j h0 h1 => (ho j h1).trans (ho1 j h0), (hcg.drewN nq).setCell (.inl (by simp)) _⟩
set_option maxRecDepth 100000 in
set_option maxHeartbeats 2000000 in
theorem subVV_two (a cap ax cx ay cy x0 x1 y0 y1 : Nat) (cs : Array Value) (w : World) (hb : Blk w a cs 97) (h1 : 2 ≤ cs.size) (hx : w.cell? ⟨ax, 0, none⟩ = some (.int .u64 x0)) (hx' : w.cell? ⟨ax, 1, none⟩ = some (.int .u64 x1)) (hy : w.cell? ⟨ay, 0, none⟩ = some (.int .u64 y0)) (hy' : w.cell? ⟨ay, 1, none⟩ = some (.int .u64 y1))
    (_l : True) :
    Calls Tryz.prog 63 #[.slice (some ⟨a, 0, none⟩) 2 cap, .slice (some ⟨ax, 0, none⟩) 2 cx, .slice (some ⟨ay, 0, none⟩) 2 cy] w fun e w' => e = .returned (.int .u64 ((if x1 < y1 + (if x0 < y0 then 1 else 0) then 1 else 0 : Nat) : Int)) ∧
      ∃ cs', Blk w' a cs' 97 ∧ cs'.size = cs.size ∧ cs'[0]? = some (.int .u64 (((x0 + 18446744073709551616 - y0) % 18446744073709551616 : Nat) : Int)) ∧ cs'[1]? = some (.int .u64 (((x1 + 18446744073709551616 - y1 - (if x0 < y0 then 1 else 0)) % 18446744073709551616 : Nat) : Int)) ∧ (∀ j, j ≠ 0 → j ≠ 1 → cs'[j]? = cs[j]?) ∧ Chg [a] w w' := by
  have HC := Lib.hid (fun w => bsub_any x0 y0 0 w (by omega))
  simp only [Nat.add_zero, Nat.sub_zero] at HC
  have lq : (if x0 < y0 then 1 else 0) ≤ 1 := by split <;> omega
  have HC2 := Lib.hid (fun w => bsub_any x1 y1 (if x0 < y0 then 1 else 0) w lq)
  obtain ⟨q, hq⟩ : ∃ q : Nat, (if x0 < y0 then 1 else 0) = q := ⟨_, rfl⟩
  obtain ⟨r, hr⟩ : ∃ r, (x0 + 18446744073709551616 - y0) % 18446744073709551616 = r := ⟨_, rfl⟩
  rw [hq, hr] at HC
  rw [hr]
  simp only [hq] at HC2 ⊢
  clear hq hr lq
  obtain ⟨q1, hq1⟩ : ∃ q1 : Nat, (if x1 < y1 + q then 1 else 0) = q1 := ⟨_, rfl⟩
  obtain ⟨r1, hr1⟩ : ∃ r1, (x1 + 18446744073709551616 - y1 - q) % 18446744073709551616 = r1 := ⟨_, rfl⟩
  rw [hq1, hr1] at HC2 ⊢
  clear hq1 hr1
  have f0 := (hb.cell 0).trans (show cs[0]? = some (cs[0]'(by omega)) by simp)
  have g0 := hb.free 0
  have f1 := (hb.cell 1).trans (show cs[1]? = some (cs[1]'(by omega)) by simp)
  have g1 := hb.free 1
  generalize cs[0]'(by omega) = c0 at *
  generalize cs[1]'(by omega) = c1 at *
  go_enter Tryz.func63, Tryz.ntmps63
  go_wp2_with fail
  refine wp_loop_rounds 3 ?_
  rw [rounds_succ]
  go_wp2_with fail
  go_quiet ((go_at_call 109; exact Calls.quiet_of (HC.out _)))
  go_wp2_with fail
  obtain ⟨cs1, hb1, hs1, hs10, ho1⟩ := Blk.of_set (w := w.drewN nq) (i := 0) hb (.int .u64 (r : Int)) (by omega)
  have hxn : ((w.drewN nq).setCell ⟨a, 0, none⟩ (.int .u64 (r : Int))).cell? ⟨ax, 1, none⟩ = some (.int .u64 x1) := (World.cell?_setCell_other _ _ _ _ (by simp)).trans hx'
  have hyn : ((w.drewN nq).setCell ⟨a, 0, none⟩ (.int .u64 (r : Int))).cell? ⟨ay, 1, none⟩ = some (.int .u64 y1) := (World.cell?_setCell_other _ _ _ _ (by simp)).trans hy'
  have hcg : Chg [a] w ((w.drewN nq).setCell ⟨a, 0, none⟩ (.int .u64 (r : Int))) := ((Chg.refl _ _).drewN nq).setCell (.inl (by simp)) _
  obtain ⟨w1, hw1⟩ : ∃ w1, (w.drewN nq).setCell ⟨a, 0, none⟩ (.int .u64 (r : Int)) = w1 := ⟨_, rfl⟩
  rw [hw1] at hb1 hxn hyn hcg ⊢
  have h2 : 2 ≤ cs1.size := by omega
  have f1' := (hb1.cell 1).trans (show cs1[1]? = some (cs1[1]'(by omega)) by simp)
  have g1' := hb1.free 1
  generalize cs1[1]'(by omega) = c1' at *
  clear hw1 f0 g0 f1 g1 hx hy hx' hy' HC
  rw [rounds_succ]
  go_wp2_with fail
  go_quiet ((go_at_call 109; exact Calls.quiet_of (HC2.out _)))
  go_wp2_with fail
  rw [rounds_succ]
  go_wp2_with fail
  go_ret
  obtain ⟨cs', hb', hs', hs0, ho⟩ := Blk.of_set (w := w1.drewN nq) (i := 1) (Blk.drewN hb1 nq) (.int .u64 (r1 : Int)) (by omega)
  exact ⟨rfl, cs', hb', hs'.trans hs1, (ho 0 (by omega)).trans hs10, hs0, fun j h0 h1 => (ho j h1).trans (ho1 j h0), (hcg.drewN nq).setCell (.inl (by simp)) _⟩
end Go.Proofs.YtochcofoknfjfaaGreatDoor
namespace Go.Proofs.YtochcofoknfjfaaGreatDoor
open Go Go.RowKit Nt

/-- Behind addVV, subVV at two words: the carry; the two words. -/
def VVOut2 (w1 : World) (a : Nat) (cs : Array Value) (q r0 r1 : Nat) (v : Value) (w2 : World) : Prop :=
  v = .int .u64 q ∧ ∃ cs', Blk w2 a cs' 97 ∧ cs'.size = cs.size ∧ cs'[0]? = some (.int .u64 r0) ∧ cs'[1]? = some (.int .u64 r1) ∧ (∀ j, j ≠ 0 → j ≠ 1 → cs'[j]? = cs[j]?) ∧ Chg [a] w1 w2

set_option maxRecDepth 100000 in
set_option maxHeartbeats 2000000 in
theorem nadd_22 (v x y : Value) (S T U : List Nat) (X Y : Nat) (w : World) (hs : Sto w v S) (hx : Wd w x (dg X) T) (hX0 : 18446744073709551616 ≤ X) (hX : X < 18446744073709551616 * 18446744073709551616) (hy : Wd w y (dg Y) U) (hY0 : 18446744073709551616 ≤ Y) (hY : Y < 18446744073709551616 * 18446744073709551616) :
    Calls Tryz.prog 74 #[v, x, y] w (NatRes w S (X + Y)) := by
  have hen := addVV_enters
  rw [dg_two hX0 hX] at hx
  rw [dg_two hY0 hY] at hy
  rcases hx with ⟨_, _, h⟩ | ⟨ax, cx, csx, rfl, rfl, h1, h2, h3, hbx, hcx⟩
  · cases h
  rcases hy with ⟨_, _, h⟩ | ⟨ay, cy, csy, rfl, rfl, h1y, h2y, h3y, hby, hcy⟩
  · cases h
  have h1n : 2 ≤ cx := by simpa using h1
  have h1yn : 2 ≤ cy := by simpa using h1y
  have hcx0 := hcx 0 (by simp)
  have hcx1 := hcx 1 (by simp)
  have hcy0 := hcy 0 (by simp)
  have hcy1 := hcy 1 (by simp)
  simp only [List.getElem_cons_zero, List.getElem_cons_succ] at hcx0 hcx1 hcy0 hcy1
  clear hcx hcy
  obtain ⟨x0, hx0⟩ : ∃ r, X % 18446744073709551616 = r := ⟨_, rfl⟩
  obtain ⟨x1, hx1⟩ : ∃ r, X / 18446744073709551616 = r := ⟨_, rfl⟩
  obtain ⟨y0, hy0⟩ : ∃ r, Y % 18446744073709551616 = r := ⟨_, rfl⟩
  obtain ⟨y1, hy1⟩ : ∃ r, Y / 18446744073709551616 = r := ⟨_, rfl⟩
  rw [hx0] at hcx0
  rw [hx1] at hcx1
  rw [hy0] at hcy0
  rw [hy1] at hcy1
  have lx0 : x0 < 18446744073709551616 := by omega
  have lx1 : x1 < 18446744073709551616 := by omega
  have ly0 : y0 < 18446744073709551616 := by omega
  have ly1 : y1 < 18446744073709551616 := by omega
  have HXX := Lib.hid (show X = x0 + 18446744073709551616 * x1 by omega)
  have HYY := Lib.hid (show Y = y0 + 18446744073709551616 * y1 by omega)
  clear hx0 hx1 hy0 hy1
  have HM := Lib.hid (fun (a cap : Nat) (cs : Array Value) (w : World) hb h1 hx hx' hy hy' => addVV_two a cap ax cx ay cy x0 x1 y0 y1 cs w hb h1 hx hx' hy hy' lx0 lx1 ly0 ly1)
  have HNV := Lib.hid (show nv [(x0 + y0) % 18446744073709551616, (x1 + y1 + (x0 + y0) / 18446744073709551616) % 18446744073709551616, (x1 + y1 + (x0 + y0) / 18446744073709551616) / 18446744073709551616] = X + Y by have := HXX.out; have := HYY.out; simp only [nv, B_eq]; omega)
  have HD : Dig [(x0 + y0) % 18446744073709551616, (x1 + y1 + (x0 + y0) / 18446744073709551616) % 18446744073709551616, (x1 + y1 + (x0 + y0) / 18446744073709551616) / 18446744073709551616] := Dig.cons (by rw [B_eq]; omega) (Dig.cons (by rw [B_eq]; omega) (Dig.cons (by rw [B_eq]; omega) Dig.nil))
  obtain ⟨r0, hr0⟩ : ∃ r, (x0 + y0) % 18446744073709551616 = r := ⟨_, rfl⟩
  obtain ⟨r1, hr1⟩ : ∃ r, (x1 + y1 + (x0 + y0) / 18446744073709551616) % 18446744073709551616 = r := ⟨_, rfl⟩
  obtain ⟨q1, hq1⟩ : ∃ r, (x1 + y1 + (x0 + y0) / 18446744073709551616) / 18446744073709551616 = r := ⟨_, rfl⟩
  rw [hr0, hr1, hq1] at HNV HD HM
  clear hr0 hr1 hq1 hX hX0 hY hY0
  go_enter Tryz.func74, Tryz.ntmps74
  go_wp2_with fail
  refine (make_any v S 3 w hs (by omega) (by omega)).mono ?_
  rintro e w1 ⟨a, cap, cs, rfl, h1', h2', h3', hb, ha, hc1, hq⟩
  have hbx1 := hbx.chg hc1 (by simp)
  have hby1 := hby.chg hc1 (by simp)
  have hx1 : w1.cell? ⟨ax, 0, none⟩ = some (.int .u64 x0) := (hbx1.cell 0).trans hcx0
  have hx2 : w1.cell? ⟨ax, 1, none⟩ = some (.int .u64 x1) := (hbx1.cell 1).trans hcx1
  have hy1 : w1.cell? ⟨ay, 0, none⟩ = some (.int .u64 y0) := (hby1.cell 0).trans hcy0
  have hy2 : w1.cell? ⟨ay, 1, none⟩ = some (.int .u64 y1) := (hby1.cell 1).trans hcy1
  clear hq
  go_upto_region 10 with fail
  go_cut [9] (fun c wx => VVOut2 w1 a cs q1 r0 r1 c wx)
  case first =>
    go_region_with (first | (go_at_call 62; refine (HM.out a cap cs w1.drew (by exact hb) (by omega) (by exact hx1) (by exact hx2) (by exact hy1) (by exact hy2)).mono ?_; rintro e w2 ⟨rfl, cs', hb', hs', hs0, hs1, ho, hc2⟩))
    all_goals (go_wp2_with fail; go_meet; exact ⟨rfl, cs', hb', hs', hs0, hs1, ho, (Chg.refl _ _).drew.trans hc2⟩)
  case rest =>
    obtain ⟨rfl, cs', hb', hs', hs0, hs1, ho, hc2⟩ := hcut
    have f1 := (hb'.cell 2).trans (show cs'[2]? = some (cs'[2]'(by omega)) by simp)
    have g1 := hb'.free 2
    generalize cs'[2]'(by omega) = c1 at f1
    obtain ⟨cs2, hb2, hs2, hs21, ho2⟩ := Blk.of_set (i := 2) hb' (.int .u64 (q1 : Int)) (by omega)
    have HCC : Cells cs2 [r0, r1, q1] := fun i hi => by
      match i, hi with
      | 0, _ => rw [ho2 0 (by omega)]; exact hs0
      | 1, _ => rw [ho2 1 (by omega)]; exact hs1
      | 2, _ => exact hs21
    go_wp2_with fail
    refine (norm_any a cap cs2 [r0, r1, q1] _ hb2 (by simpa using h1') h2' (by omega) HCC HD).mono ?_
    rintro e w3 ⟨v', rfl, hw3, rfl⟩
    rw [HNV.out] at hw3
    go_wp2
    go_ret
    refine ⟨_, [a], rfl, hw3, ?_, ?_⟩
    · intro k hk
      simp at hk; subst hk; exact ha
    · exact ((hc1.mono (by simp)).trans' hc2 (by intro k hk; simp at hk; subst hk; exact ha)).setCell ha _

set_option maxRecDepth 100000 in
set_option maxHeartbeats 2000000 in
theorem nsub_22 (v x y : Value) (S T U : List Nat) (X Y : Nat) (w : World) (hs : Sto w v S) (hx : Wd w x (dg X) T) (hX0 : 18446744073709551616 ≤ X) (hX : X < 18446744073709551616 * 18446744073709551616) (hy : Wd w y (dg Y) U) (hY0 : 18446744073709551616 ≤ Y) (hY : Y < 18446744073709551616 * 18446744073709551616) (hXY : Y ≤ X) :
    Calls Tryz.prog 76 #[v, x, y] w (NatRes w S (X - Y)) := by
  have hen := subVV_enters
  rw [dg_two hX0 hX] at hx
  rw [dg_two hY0 hY] at hy
  rcases hx with ⟨_, _, h⟩ | ⟨ax, cx, csx, rfl, rfl, h1, h2, h3, hbx, hcx⟩
  · cases h
  rcases hy with ⟨_, _, h⟩ | ⟨ay, cy, csy, rfl, rfl, h1y, h2y, h3y, hby, hcy⟩
  · cases h
  have h1n : 2 ≤ cx := by simpa using h1
  have h1yn : 2 ≤ cy := by simpa using h1y
  have hcx0 := hcx 0 (by simp)
  have hcx1 := hcx 1 (by simp)
  have hcy0 := hcy 0 (by simp)
  have hcy1 := hcy 1 (by simp)
  simp only [List.getElem_cons_zero, List.getElem_cons_succ] at hcx0 hcx1 hcy0 hcy1
  clear hcx hcy
  obtain ⟨x0, hx0⟩ : ∃ r, X % 18446744073709551616 = r := ⟨_, rfl⟩
  obtain ⟨x1, hx1⟩ : ∃ r, X / 18446744073709551616 = r := ⟨_, rfl⟩
  obtain ⟨y0, hy0⟩ : ∃ r, Y % 18446744073709551616 = r := ⟨_, rfl⟩
  obtain ⟨y1, hy1⟩ : ∃ r, Y / 18446744073709551616 = r := ⟨_, rfl⟩
  rw [hx0] at hcx0
  rw [hx1] at hcx1
  rw [hy0] at hcy0
  rw [hy1] at hcy1
  have lx0 : x0 < 18446744073709551616 := by omega
  have lx1 : x1 < 18446744073709551616 := by omega
  have ly0 : y0 < 18446744073709551616 := by omega
  have ly1 : y1 < 18446744073709551616 := by omega
  have HXX := Lib.hid (show X = x0 + 18446744073709551616 * x1 by omega)
  have HYY := Lib.hid (show Y = y0 + 18446744073709551616 * y1 by omega)
  clear hx0 hx1 hy0 hy1
  have HM := Lib.hid (fun (a cap : Nat) (cs : Array Value) (w : World) hb h1 hx hx' hy hy' => subVV_two a cap ax cx ay cy x0 x1 y0 y1 cs w hb h1 hx hx' hy hy' trivial)
  have hbo : (if x1 < y1 + (if x0 < y0 then 1 else 0) then 1 else 0) = 0 := by
    have := HXX.out
    have := HYY.out
    split <;> split <;> omega
  have HNV := Lib.hid (show nv [(x0 + 18446744073709551616 - y0) % 18446744073709551616, (x1 + 18446744073709551616 - y1 - (if x0 < y0 then 1 else 0)) % 18446744073709551616] = X - Y by
    have := HXX.out
    have := HYY.out
    simp only [nv, B_eq]
    split <;> omega)
  have HD : Dig [(x0 + 18446744073709551616 - y0) % 18446744073709551616, (x1 + 18446744073709551616 - y1 - (if x0 < y0 then 1 else 0)) % 18446744073709551616] := Dig.cons (by rw [B_eq]; omega) (Dig.cons (by rw [B_eq]; exact Nat.mod_lt _ (by omega)) Dig.nil)
  rw [hbo] at HM
  obtain ⟨r0, hr0⟩ : ∃ r, (x0 + 18446744073709551616 - y0) % 18446744073709551616 = r := ⟨_, rfl⟩
  obtain ⟨r1, hr1⟩ : ∃ r, (x1 + 18446744073709551616 - y1 - (if x0 < y0 then 1 else 0)) % 18446744073709551616 = r := ⟨_, rfl⟩
  rw [hr0, hr1] at HNV HD HM
  clear hr0 hr1 hX hX0 hY hY0 hbo hXY
  go_enter Tryz.func76, Tryz.ntmps76
  go_wp2_with fail
  refine (make_any v S 2 w hs (by omega) (by omega)).mono ?_
  rintro e w1 ⟨a, cap, cs, rfl, h1', h2', h3', hb, ha, hc1, hq⟩
  have hbx1 := hbx.chg hc1 (by simp)
  have hby1 := hby.chg hc1 (by simp)
  have hx1 : w1.cell? ⟨ax, 0, none⟩ = some (.int .u64 x0) := (hbx1.cell 0).trans hcx0
  have hx2 : w1.cell? ⟨ax, 1, none⟩ = some (.int .u64 x1) := (hbx1.cell 1).trans hcx1
  have hy1 : w1.cell? ⟨ay, 0, none⟩ = some (.int .u64 y0) := (hby1.cell 0).trans hcy0
  have hy2 : w1.cell? ⟨ay, 1, none⟩ = some (.int .u64 y1) := (hby1.cell 1).trans hcy1
  clear hq
  go_upto_region 10 with fail
  go_cut [9] (fun c wx => VVOut2 w1 a cs 0 r0 r1 c wx)
  case first =>
    go_region_with (first | (go_at_call 63; refine (HM.out a cap cs w1.drew (by exact hb) (by omega) (by exact hx1) (by exact hx2) (by exact hy1) (by exact hy2)).mono ?_; rintro e w2 ⟨rfl, cs', hb', hs', hs0, hs1, ho, hc2⟩))
    all_goals (go_wp2_with fail; go_meet; exact ⟨rfl, cs', hb', hs', hs0, hs1, ho, (Chg.refl _ _).drew.trans hc2⟩)
  case rest =>
    obtain ⟨rfl, cs', hb', hs', hs0, hs1, ho, hc2⟩ := hcut
    have HCC : Cells cs' [r0, r1] := fun i hi => by
      match i, hi with
      | 0, _ => exact hs0
      | 1, _ => exact hs1
    go_wp2_with fail
    refine (norm_any a cap cs' [r0, r1] _ hb' (by simpa using h1') h2' (by omega) HCC HD).mono ?_
    rintro e w3 ⟨v', rfl, hw3, rfl⟩
    rw [HNV.out] at hw3
    go_wp2
    go_ret
    refine ⟨_, [a], rfl, hw3, ?_, ?_⟩
    · intro k hk
      simp at hk; subst hk; exact ha
    · exact (hc1.mono (by simp)).trans' hc2 (by intro k hk; simp at hk; subst hk; exact ha)

set_option maxRecDepth 100000 in
set_option maxHeartbeats 1000000 in
theorem nadd_any2 (v x y : Value) (S T U : List Nat) (X Y : Nat) (w : World) (hs : Sto w v S) (hx : Wd w x (dg X) T) (hX : X < 18446744073709551616 * 18446744073709551616) (hy : Wd w y (dg Y) U) (hY : Y < 18446744073709551616 * 18446744073709551616) :
    Calls Tryz.prog 74 #[v, x, y] w (NatRes w S (X + Y)) := by
  by_cases hY1 : Y < 18446744073709551616
  · exact nadd_any v x y S T U X Y w hs hx hX hy hY1
  · by_cases hX1 : X < 18446744073709551616
    · have HC := Lib.hid (nadd_any v y x S U T Y X w hs hy hY hx hX1)
      rw [Nat.add_comm Y X] at HC
      have hly : (dg Y).length = 2 := by rw [dg_two (by omega) hY]; rfl
      have hlx : (dg X).length ≤ 1 := @dg_length_le X 1 (by rw [B_eq]; omega)
      obtain ⟨ox, cx, rfl, _, _⟩ := wd_form hx
      obtain ⟨oy, cy, rfl, _, _⟩ := wd_form hy
      have hlt : ((dg X).length : Int) < (dg Y).length := by omega
      rw [hly] at HC hlt ⊢
      clear hs hx hy hX hY hX1 hY1 hly
      generalize (dg X).length = lx at *
      go_enter Tryz.func74, Tryz.ntmps74
      go_wp2_with fail
      refine HC.out.mono ?_
      rintro e w1 ⟨v', S', rfl, r1, r2, r3⟩
      go_wp2_with fail
      go_ret
      exact ⟨v', S', rfl, r1, r2, r3⟩
    · exact nadd_22 v x y S T U X Y w hs hx (by omega) hX hy (by omega) hY

theorem nsub_any2 (v x y : Value) (S T U : List Nat) (X Y : Nat) (w : World) (hs : Sto w v S) (hx : Wd w x (dg X) T) (hX : X < 18446744073709551616 * 18446744073709551616) (hy : Wd w y (dg Y) U) (hY : Y < 18446744073709551616 * 18446744073709551616) (hXY : Y ≤ X) :
    Calls Tryz.prog 76 #[v, x, y] w (NatRes w S (X - Y)) := by
  by_cases hY1 : Y < 18446744073709551616
  · exact nsub_any v x y S T U X Y w hs hx hX hy hY1 hXY
  · exact nsub_22 v x y S T U X Y w hs hx (by omega) hX hy (by omega) hY hXY
end Go.Proofs.YtochcofoknfjfaaGreatDoor
