/- Walk of nat.cmp. -/
import Derived.Test.YtochcofoknfjfaaGreatDoorW3
namespace Go.Proofs.YtochcofoknfjfaaGreatDoor
open Go Go.RowKit Nt

theorem cmpI_lt {a b : Nat} (h : a < b) : cmpI a b = -1 := by simp [cmpI, h]
theorem cmpI_eq {a : Nat} : cmpI a a = 0 := by simp [cmpI]
theorem cmpI_gt {a b : Nat} (h : b < a) : cmpI a b = 1 := by
  unfold cmpI
  rw [if_neg (by omega), if_neg (by omega)]

set_option maxRecDepth 100000 in
set_option maxHeartbeats 1000000 in
theorem ncmp_same (ax ay cx cy m : Nat) (csx csy : Array Value) (dx dy : List Nat) (w : World) (hlx : dx.length = m + 1) (hly : dy.length = m + 1) (hdx : Dig dx) (hdy : Dig dy)
    (hbx : Blk w ax csx 91) (hby : Blk w ay csy 91) (hcx : Cells csx dx) (hcy : Cells csy dy) (hm : m ≤ 4294967296) :
    Calls Tryz.prog 70 #[.slice (some ⟨ax, 0, none⟩) (m + 1) cx, .slice (some ⟨ay, 0, none⟩) (m + 1) cy] w fun e w' => e = .returned (.int .i64 (cmpI (nv dx) (nv dy))) ∧ ∃ q, w' = w.drewN q := by
  have HX := Lib.hid hlx
  have HY := Lib.hid hly
  have hnb : ((m : Int) + 1 == 0) = false := by simp; omega
  clear hlx hly
  go_enter Tryz.func70, Tryz.ntmps70
  go_wp2
  go_loopw [7] (fun i wr => ∃ k q, k ≤ m ∧ i = .int .i64 (k : Nat) ∧ wr = w.drewN q ∧ Hid (∀ j, k < j → (hj : j < dx.length) → (hj' : j < dy.length) → dx[j] = dy[j])) (fun i _ => (intOf i).toNat)
  case atStart => exact ⟨m, 0, Nat.le_refl _, by go_num, rfl, fun j h hj _ => by have := HX.out; omega⟩
  case round =>
    obtain ⟨k, q, hk, rfl, rfl, hz⟩ := hrel
    have hkx : k < dx.length := by have := HX.out; omega
    have hky : k < dy.length := by have := HY.out; omega
    have hcellx : w.cell? ⟨ax, k, none⟩ = some (.int .u64 (dx[k] : Nat)) := (hbx.cell k).trans (hcx k hkx)
    have hcelly : w.cell? ⟨ay, k, none⟩ = some (.int .u64 (dy[k] : Nat)) := (hby.cell k).trans (hcy k hky)
    obtain ⟨xk, hxk⟩ : ∃ d, dx[k] = d := ⟨_, rfl⟩
    obtain ⟨yk, hyk⟩ : ∃ d, dy[k] = d := ⟨_, rfl⟩
    rw [hxk] at hcellx
    rw [hyk] at hcelly
    have HXK := Lib.hid hxk
    have HYK := Lib.hid hyk
    clear hxk hyk
    have hdrop : dx.drop (k + 1) = dy.drop (k + 1) := by
      refine List.ext_getElem (by rw [List.length_drop, List.length_drop, HX.out, HY.out]) fun i h1 h2 => ?_
      rw [List.getElem_drop, List.getElem_drop]
      exact hz.out _ (by omega) (by rw [List.length_drop] at h1; omega) (by rw [List.length_drop] at h2; omega)
    have HLT : xk < yk → Hid (cmpI (nv dx) (nv dy) = -1) := fun h => cmpI_lt (nv_lt_at hdx hkx hky hdrop (by rw [HXK.out, HYK.out]; exact h))
    have HGT : yk < xk → Hid (cmpI (nv dx) (nv dy) = 1) := fun h => cmpI_gt (nv_lt_at hdy hky hkx hdrop.symm (by rw [HXK.out, HYK.out]; exact h))
    have HEQ : k = 0 → xk = yk → Hid (cmpI (nv dx) (nv dy) = 0) := fun h0 h => by
      have : dx = dy := List.ext_getElem (by rw [HX.out, HY.out]) fun i h1 h2 => by
        by_cases hi : i = k
        · subst hi; rw [HXK.out, HYK.out]; exact h
        · exact hz.out i (by omega) h1 h2
      rw [this]
      exact cmpI_eq
    clear hdrop hcx hcy
    rcases Nat.lt_trichotomy xk yk with hlt | heq | hgt
    · have HR := HLT hlt
      clear HLT HGT HEQ
      have h1 : ((xk : Int) == (yk : Int)) = false := by simp; omega
      have h2 : (xk : Int) < (yk : Int) := by omega
      clear hlt
      by_cases hk0 : 0 < k
      · have hkI : (0 : Int) < (k : Int) := by omega
        go_wp2_with fail
        go_quiet (fail)
        go_wp2
        go_quiet (fail)
        go_wp2
        go_ret
        exact ⟨by rw [HR.out]; rfl, _, by simp only [World.drewN_drewN]; rfl⟩
      · have hkI : decide ((0 : Int) < (k : Int)) = false := decide_eq_false (by omega)
        go_wp2_with fail
        go_quiet (fail)
        go_wp2
        go_quiet (fail)
        go_wp2
        go_ret
        exact ⟨by rw [HR.out]; rfl, _, by simp only [World.drewN_drewN]; rfl⟩
    · by_cases hk0 : 0 < k
      · clear HLT HGT HEQ
        subst heq
        have hkI : (0 : Int) < (k : Int) := by omega
        have hk1 : ((k : Int) - 1) = ((k - 1 : Nat) : Int) := by omega
        have HK := Lib.hid hk1
        clear hk1
        go_wp2_with fail
        go_quiet (fail)
        go_wp2
        go_roundw
        case rel =>
          refine ⟨k - 1, _, by omega, by rw [← HK.out], rfl, fun j h hj hj' => ?_⟩
          by_cases e : j = k
          · subst e; rw [HXK.out, HYK.out]
          · exact hz.out j (by omega) hj hj'
        case measure => simp [intOf]; omega
      · have HR := HEQ (by omega) heq
        clear HLT HGT HEQ
        subst heq
        have hkI : decide ((0 : Int) < (k : Int)) = false := decide_eq_false (by omega)
        go_wp2_with fail
        go_quiet (fail)
        go_wp2
        go_quiet (fail)
        go_wp2
        go_quiet (fail)
        go_wp2
        go_ret
        exact ⟨by rw [HR.out]; rfl, _, by simp only [World.drewN_drewN]; rfl⟩
    · have HR := HGT hgt
      clear HLT HGT HEQ
      have h1 : ((xk : Int) == (yk : Int)) = false := by simp; omega
      have h2 : (yk : Int) < (xk : Int) := by omega
      have h3 : decide ((xk : Int) < (yk : Int)) = false := decide_eq_false (by omega)
      clear hgt
      by_cases hk0 : 0 < k
      · have hkI : (0 : Int) < (k : Int) := by omega
        go_wp2_with fail
        go_quiet (fail)
        go_wp2
        go_quiet (fail)
        go_wp2
        go_quiet (fail)
        go_wp2
        go_ret
        exact ⟨by rw [HR.out]; rfl, _, by simp only [World.drewN_drewN]; rfl⟩
      · have hkI : decide ((0 : Int) < (k : Int)) = false := decide_eq_false (by omega)
        go_wp2_with fail
        go_quiet (fail)
        go_wp2
        go_quiet (fail)
        go_wp2
        go_quiet (fail)
        go_wp2
        go_ret
        exact ⟨by rw [HR.out]; rfl, _, by simp only [World.drewN_drewN]; rfl⟩

set_option maxRecDepth 100000 in
set_option maxHeartbeats 1000000 in
theorem ncmp_any (x y : Value) (X Y : Nat) (S T : List Nat) (w : World) (hx : Wd w x (dg X) S) (hy : Wd w y (dg Y) T) :
    Calls Tryz.prog 70 #[x, y] w fun e w' => e = .returned (.int .i64 (cmpI X Y)) ∧ ∃ m, w' = w.drewN m := by
  obtain ⟨ox, cx, rfl, hx1, hx2⟩ := wd_form hx
  obtain ⟨oy, cy, rfl, hy1, hy2⟩ := wd_form hy
  by_cases hlt : (dg X).length < (dg Y).length
  · have HR := Lib.hid (cmpI_lt (lt_of_length hlt))
    generalize (dg X).length = m at *
    generalize (dg Y).length = n at *
    go_enter Tryz.func70, Tryz.ntmps70
    go_wp2
    go_ret
    exact ⟨by rw [HR.out]; rfl, 0, rfl⟩
  · by_cases hgt : (dg Y).length < (dg X).length
    · have HR := Lib.hid (cmpI_gt (lt_of_length hgt))
      generalize (dg X).length = m at *
      generalize (dg Y).length = n at *
      go_enter Tryz.func70, Tryz.ntmps70
      go_wp2
      go_ret
      exact ⟨by rw [HR.out]; rfl, 0, rfl⟩
    · have hl : (dg Y).length = (dg X).length := by omega
      clear hlt hgt
      by_cases h0 : (dg X).length = 0
      · have hX : X = 0 := by
          have h1 := nv_dg X
          rw [List.eq_nil_of_length_eq_zero h0] at h1
          exact h1.symm
        have hY : Y = 0 := by
          have h1 := nv_dg Y
          rw [List.eq_nil_of_length_eq_zero (hl.trans h0)] at h1
          exact h1.symm
        subst hX; subst hY
        rw [dg_zero]
        go_enter Tryz.func70, Tryz.ntmps70
        go_wp2
        go_ret
        exact ⟨rfl, 0, rfl⟩
      · rcases hx with ⟨_, _, h⟩ | ⟨ax, cx', csx, ex, _, h3, h4, h5, hbx, hdx⟩
        · rw [h] at h0; exact absurd rfl h0
        rcases hy with ⟨_, _, h⟩ | ⟨ay, cy', csy, ey, _, h3', h4', h5', hby, hdy⟩
        · rw [h] at hl; exact absurd hl.symm h0
        cases ex; cases ey
        obtain ⟨m, hm⟩ : ∃ m, (dg X).length = m + 1 := ⟨(dg X).length - 1, by omega⟩
        have h := ncmp_same ax ay cx cy m csx csy (dg X) (dg Y) w hm (hl.trans hm) (dig_dg _) (dig_dg _) hbx hby hdx hdy (by omega)
        rw [hl, hm]
        rw [nv_dg, nv_dg] at h
        exact h
end Go.Proofs.YtochcofoknfjfaaGreatDoor
