/- Walk: nat.add: a number of at most two words and one of at most one. -/
import Derived.Test.YtggoncneinlpgaaGreatDoorM4
import Derived.Test.YtggoncneinlpgaaGreatDoorW456
import Derived.Deep.DeepCutAuto
namespace Go.Proofs.YtggoncneinlpgaaGreatDoor
open Go Go.RowKit Nt

theorem dg_two {X : Nat} (h : 18446744073709551616 ≤ X) (h2 : X < 18446744073709551616 * 18446744073709551616) : dg X = [X % 18446744073709551616, X / 18446744073709551616] := by
  rw [dg_pos (by omega), dg_one (by rw [B_eq]; omega) (by rw [B_eq]; omega), B_eq]

/-- Behind addVV: its carry; the first word. -/
def VVOut (w1 : World) (a : Nat) (cs : Array Value) (q r : Nat) (v : Value) (w2 : World) : Prop :=
  v = .int .u64 q ∧ ∃ cs', Blk w2 a cs' 80 ∧ cs'.size = cs.size ∧ cs'[0]? = some (.int .u64 r) ∧ (∀ j, j ≠ 0 → cs'[j]? = cs[j]?) ∧ Chg [a] w1 w2

set_option maxRecDepth 100000 in
set_option maxHeartbeats 1000000 in
theorem nadd_11 (v x y : Value) (S T U : List Nat) (X Y : Nat) (w : World) (hs : Sto w v S) (hx : Wd w x (dg X) T) (hX0 : X ≠ 0) (hX : X < 18446744073709551616) (hy : Wd w y (dg Y) U) (hY0 : Y ≠ 0) (hY : Y < 18446744073709551616) :
    Calls Tryz.prog 40 #[v, x, y] w (NatRes w S (X + Y)) := by
  have hen := addVV_enters
  rw [dg_one hX0 (by rw [B_eq]; exact hX)] at hx
  rw [dg_one hY0 (by rw [B_eq]; exact hY)] at hy
  rcases hx with ⟨_, _, h⟩ | ⟨ax, cx, csx, rfl, rfl, h1, h2, h3, hbx, hcx⟩
  · cases h
  rcases hy with ⟨_, _, h⟩ | ⟨ay, cy, csy, rfl, rfl, h1y, h2y, h3y, hby, hcy⟩
  · cases h
  have h1n : 1 ≤ cx := by simpa using h1
  have h1yn : 1 ≤ cy := by simpa using h1y
  have HM := Lib.hid (fun (a cap : Nat) (cs : Array Value) (w : World) hb h1 hx hy => addVV_one a cap ax cx ay cy X Y cs w hb h1 hx hy hX hY)
  have HNV := Lib.hid (show nv [(X + Y) % 18446744073709551616, (X + Y) / 18446744073709551616] = X + Y by simp only [nv, B_eq]; omega)
  have HD : Dig [(X + Y) % 18446744073709551616, (X + Y) / 18446744073709551616] := Dig.cons (by rw [B_eq]; omega) (Dig.cons (by rw [B_eq]; omega) Dig.nil)
  obtain ⟨lo, hlo⟩ : ∃ r, (X + Y) % 18446744073709551616 = r := ⟨_, rfl⟩
  obtain ⟨hi, hhi⟩ : ∃ r, (X + Y) / 18446744073709551616 = r := ⟨_, rfl⟩
  rw [hlo, hhi] at HNV HD HM
  clear hlo hhi
  go_enter Tryz.func40, Tryz.ntmps40
  go_wp2_with fail
  refine (make_any v S 2 w hs (by omega) (by omega)).mono ?_
  rintro e w1 ⟨a, cap, cs, rfl, h1', h2', h3', hb, ha, hc1, hq⟩
  have hx1 : w1.cell? ⟨ax, 0, none⟩ = some (.int .u64 X) := ((hbx.chg hc1 (by simp)).cell 0).trans (hcx 0 (by simp))
  have hy1 : w1.cell? ⟨ay, 0, none⟩ = some (.int .u64 Y) := ((hby.chg hc1 (by simp)).cell 0).trans (hcy 0 (by simp))
  clear hq
  go_upto_region 10 with fail
  go_cut [9] (fun c wx => VVOut w1 a cs hi lo c wx)
  case first =>
    go_region_with (first | (go_at_call 29; refine (HM.out a cap cs w1.drew (by exact hb) (by omega) (by exact hx1) (by exact hy1)).mono ?_; rintro e w2 ⟨rfl, cs', hb', hs', hs0, ho, hc2⟩))
    all_goals (go_wp2_with fail; go_meet; exact ⟨rfl, cs', hb', hs', hs0, ho, (Chg.refl _ _).drew.trans hc2⟩)
  case rest =>
    obtain ⟨rfl, cs', hb', hs', hs0, ho, hc2⟩ := hcut
    have f1 := (hb'.cell 1).trans (show cs'[1]? = some (cs'[1]'(by omega)) by simp)
    have g1 := hb'.free 1
    generalize cs'[1]'(by omega) = c1 at f1
    obtain ⟨cs2, hb2, hs2, hs21, ho2⟩ := Blk.of_set (i := 1) hb' (.int .u64 (hi : Int)) (by omega)
    have HCC : Cells cs2 [lo, hi] := fun i hi => by
      match i, hi with
      | 0, _ => rw [ho2 0 (by omega)]; exact hs0
      | 1, _ => exact hs21
    go_wp2_with fail
    refine (norm_any a cap cs2 [lo, hi] _ hb2 (by simpa using h1') h2' (by omega) HCC HD).mono ?_
    rintro e w3 ⟨v', rfl, hw3, rfl⟩
    rw [HNV.out] at hw3
    go_wp2
    go_ret
    refine ⟨_, [a], rfl, hw3, ?_, ?_⟩
    · intro k hk
      simp at hk; subst hk; exact ha
    · exact ((hc1.mono (by simp)).trans' hc2 (by intro k hk; simp at hk; subst hk; exact ha)).setCell ha _
end Go.Proofs.YtggoncneinlpgaaGreatDoor
