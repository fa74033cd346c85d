/- Walk of nat.cmp. Walks: low64, Int.Int64, Int.CmpAbs, Int.Cmp, bits.Div64, bits.Div. Walks: divWVW, nat.divW, nat.div, Int.Quo, at one word. -/
import Derived.Test.YtggoncneinlpgaaGreatDoorW3
namespace Go.Proofs.YtggoncneinlpgaaGreatDoor
open Go Go.RowKit Nt

theorem cmpI_lt {a b : Nat} (h : a < b) : cmpI a b = -1 := by simp [cmpI, h]
theorem cmpI_eq {a : Nat} : cmpI a a = 0 := by simp [cmpI]
theorem cmpI_gt {a b : Nat} (h : b < a) : cmpI a b = 1 := by
  unfold cmpI
  rw [if_neg (by omega), if_neg (by omega)]

set_option maxRecDepth 100000 in
set_option maxHeartbeats 1000000 in
theorem ncmp_same (ax ay cx cy m : Nat) (csx csy : Array Value) (dx dy : List Nat) (w : World) (hlx : dx.length = m + 1) (hly : dy.length = m + 1) (hdx : Dig dx) (hdy : Dig dy)
    (hbx : Blk w ax csx 80) (hby : Blk w ay csy 80) (hcx : Cells csx dx) (hcy : Cells csy dy) (hm : m ≤ 4294967296) :
    Calls Tryz.prog 41 #[.slice (some ⟨ax, 0, none⟩) (m + 1) cx, .slice (some ⟨ay, 0, none⟩) (m + 1) cy] w fun e w' => e = .returned (.int .i64 (cmpI (nv dx) (nv dy))) ∧ ∃ q, w' = w.drewN q := by
  have HX := Lib.hid hlx
  have HY := Lib.hid hly
  have hnb : ((m : Int) + 1 == 0) = false := by simp; omega
  clear hlx hly
  go_enter Tryz.func41, Tryz.ntmps41
  go_wp2
  go_loopw [7] (fun i wr => ∃ k q, k ≤ m ∧ i = .int .i64 (k : Nat) ∧ wr = w.drewN q ∧ Hid (∀ j, k < j → (hj : j < dx.length) → (hj' : j < dy.length) → dx[j] = dy[j])) (fun i _ => (intOf i).toNat)
  case atStart => exact ⟨m, 0, Nat.le_refl _, by go_num, rfl, fun j h hj _ => by have := HX.out; omega⟩
  case round =>
    obtain ⟨k, q, hk, rfl, rfl, hz⟩ := hrel
    have hkx : k < dx.length := by have := HX.out; omega
    have hky : k < dy.length := by have := HY.out; omega
    have hcellx : w.cell? ⟨ax, k, none⟩ = some (.int .u64 (dx[k] : Nat)) := (hbx.cell k).trans (hcx k hkx)
    have hcelly : w.cell? ⟨ay, k, none⟩ = some (.int .u64 (dy[k] : Nat)) := (hby.cell k).trans (hcy k hky)
    obtain ⟨xk, hxk⟩ : ∃ d, dx[k] = d := ⟨_, rfl⟩
    obtain ⟨yk, hyk⟩ : ∃ d, dy[k] = d := ⟨_, rfl⟩
    rw [hxk] at hcellx
    rw [hyk] at hcelly
    have HXK := Lib.hid hxk
    have HYK := Lib.hid hyk
    clear hxk hyk
    have hdrop : dx.drop (k + 1) = dy.drop (k + 1) := by
      refine List.ext_getElem (by rw [List.length_drop, List.length_drop, HX.out, HY.out]) fun i h1 h2 => ?_
      rw [List.getElem_drop, List.getElem_drop]
      exact hz.out _ (by omega) (by rw [List.length_drop] at h1; omega) (by rw [List.length_drop] at h2; omega)
    have HLT : xk < yk → Hid (cmpI (nv dx) (nv dy) = -1) := fun h => cmpI_lt (nv_lt_at hdx hkx hky hdrop (by rw [HXK.out, HYK.out]; exact h))
    have HGT : yk < xk → Hid (cmpI (nv dx) (nv dy) = 1) := fun h => cmpI_gt (nv_lt_at hdy hky hkx hdrop.symm (by rw [HXK.out, HYK.out]; exact h))
    have HEQ : k = 0 → xk = yk → Hid (cmpI (nv dx) (nv dy) = 0) := fun h0 h => by
      have : dx = dy := List.ext_getElem (by rw [HX.out, HY.out]) fun i h1 h2 => by
        by_cases hi : i = k
        · subst hi; rw [HXK.out, HYK.out]; exact h
        · exact hz.out i (by omega) h1 h2
      rw [this]
      exact cmpI_eq
    clear hdrop hcx hcy
    rcases Nat.lt_trichotomy xk yk with hlt | heq | hgt
    · have HR := HLT hlt
      clear HLT HGT HEQ
      have h1 : ((xk : Int) == (yk : Int)) = false := by simp; omega
      have h2 : (xk : Int) < (yk : Int) := by omega
      clear hlt
      by_cases hk0 : 0 < k
      · have hkI : (0 : Int) < (k : Int) := by omega
        go_wp2_with fail
        go_quiet (fail)
        go_wp2
        go_quiet (fail)
        go_wp2
        go_ret
        exact ⟨by rw [HR.out]; rfl, _, by simp only [World.drewN_drewN]; rfl⟩
      · have hkI : decide ((0 : Int) < (k : Int)) = false := decide_eq_false (by omega)
        go_wp2_with fail
        go_quiet (fail)
        go_wp2
        go_quiet (fail)
        go_wp2
        go_ret
        exact ⟨by rw [HR.out]; rfl, _, by simp only [World.drewN_drewN]; rfl⟩
    · by_cases hk0 : 0 < k
      · clear HLT HGT HEQ
        subst heq
        have hkI : (0 : Int) < (k : Int) := by omega
        have hk1 : ((k : Int) - 1) = ((k - 1 : Nat) : Int) := by omega
        have HK := Lib.hid hk1
        clear hk1
        go_wp2_with fail
        go_quiet (fail)
        go_wp2
        go_roundw
        case rel =>
          refine ⟨k - 1, _, by omega, by rw [← HK.out], rfl, fun j h hj hj' => ?_⟩
          by_cases e : j = k
          · subst e; rw [HXK.out, HYK.out]
          · exact hz.out j (by omega) hj hj'
        case measure => simp [intOf]; omega
      · have HR := HEQ (by omega) heq
        clear HLT HGT HEQ
        subst heq
        have hkI : decide ((0 : Int) < (k : Int)) = false := decide_eq_false (by omega)
        go_wp2_with fail
        go_quiet (fail)
        go_wp2
        go_quiet (fail)
        go_wp2
        go_quiet (fail)
        go_wp2
        go_ret
        exact ⟨by rw [HR.out]; rfl, _, by simp only [World.drewN_drewN]; rfl⟩
    · have HR := HGT hgt
      clear HLT HGT HEQ
      have h1 : ((xk : Int) == (yk : Int)) = false := by simp; omega
      have h2 : (yk : Int) < (xk : Int) := by omega
      have h3 : decide ((xk : Int) < (yk : Int)) = false := decide_eq_false (by omega)
      clear hgt
      by_cases hk0 : 0 < k
      · have hkI : (0 : Int) < (k : Int) := by omega
        go_wp2_with fail
        go_quiet (fail)
        go_wp2
        go_quiet (fail)
        go_wp2
        go_quiet (fail)
        go_wp2
        go_ret
        exact ⟨by rw [HR.out]; rfl, _, by simp only [World.drewN_drewN]; rfl⟩
      · have hkI : decide ((0 : Int) < (k : Int)) = false := decide_eq_false (by omega)
        go_wp2_with fail
        go_quiet (fail)
        go_wp2
        go_quiet (fail)
        go_wp2
        go_quiet (fail)
        go_wp2
        go_ret
        exact ⟨by rw [HR.out]; rfl, _, by simp only [World.drewN_drewN]; rfl⟩

set_option maxRecDepth 100000 in
set_option maxHeartbeats 1000000 in
theorem ncmp_any (x y : Value) (X Y : Nat) (S T : List Nat) (w : World) (hx : Wd w x (dg X) S) (hy : Wd w y (dg Y) T) :
    Calls Tryz.prog 41 #[x, y] w fun e w' => e = .returned (.int .i64 (cmpI X Y)) ∧ ∃ m, w' = w.drewN m := by
  obtain ⟨ox, cx, rfl, hx1, hx2⟩ := wd_form hx
  obtain ⟨oy, cy, rfl, hy1, hy2⟩ := wd_form hy
  by_cases hlt : (dg X).length < (dg Y).length
  · have HR := Lib.hid (cmpI_lt (lt_of_length hlt))
    generalize (dg X).length = m at *
    generalize (dg Y).length = n at *
    go_enter Tryz.func41, Tryz.ntmps41
    go_wp2
    go_ret
    exact ⟨by rw [HR.out]; rfl, 0, rfl⟩
  · by_cases hgt : (dg Y).length < (dg X).length
    · have HR := Lib.hid (cmpI_gt (lt_of_length hgt))
      generalize (dg X).length = m at *
      generalize (dg Y).length = n at *
      go_enter Tryz.func41, Tryz.ntmps41
      go_wp2
      go_ret
      exact ⟨by rw [HR.out]; rfl, 0, rfl⟩
    · have hl : (dg Y).length = (dg X).length := by omega
      clear hlt hgt
      by_cases h0 : (dg X).length = 0
      · have hX : X = 0 := by
          have h1 := nv_dg X
          rw [List.eq_nil_of_length_eq_zero h0] at h1
          exact h1.symm
        have hY : Y = 0 := by
          have h1 := nv_dg Y
          rw [List.eq_nil_of_length_eq_zero (hl.trans h0)] at h1
          exact h1.symm
        subst hX; subst hY
        rw [dg_zero]
        go_enter Tryz.func41, Tryz.ntmps41
        go_wp2
        go_ret
        exact ⟨rfl, 0, rfl⟩
      · rcases hx with ⟨_, _, h⟩ | ⟨ax, cx', csx, ex, _, h3, h4, h5, hbx, hdx⟩
        · rw [h] at h0; exact absurd rfl h0
        rcases hy with ⟨_, _, h⟩ | ⟨ay, cy', csy, ey, _, h3', h4', h5', hby, hdy⟩
        · rw [h] at hl; exact absurd hl.symm h0
        cases ex; cases ey
        obtain ⟨m, hm⟩ : ∃ m, (dg X).length = m + 1 := ⟨(dg X).length - 1, by omega⟩
        have h := ncmp_same ax ay cx cy m csx csy (dg X) (dg Y) w hm (hl.trans hm) (dig_dg _) (dig_dg _) hbx hby hdx hdy (by omega)
        rw [hl, hm]
        rw [nv_dg, nv_dg] at h
        exact h
end Go.Proofs.YtggoncneinlpgaaGreatDoor
namespace Go.Proofs.YtggoncneinlpgaaGreatDoor
open Go Go.RowKit Nt

set_option maxRecDepth 100000 in
set_option maxHeartbeats 400000 in
theorem low64_any (v : Value) (N : Nat) (S : List Nat) (w : World) (h : Wd w v (dg N) S) :
    Calls Tryz.prog 92 #[v] w fun e w' => e = .returned (.int .u64 (N % B : Nat)) ∧ w' = w := by
  by_cases h0 : N = 0
  · subst h0
    rw [dg_zero] at h
    obtain ⟨o, cap, rfl, h1, h2⟩ := wd_form h
    go_enter Tryz.func92, Tryz.ntmps92
    go_wp2
    go_ret
    exact ⟨rfl, rfl⟩
  · have hd := dg_pos h0
    rcases h with ⟨_, _, h⟩ | ⟨a, cap, cs, rfl, rfl, h1, h2, h3, hb, hc⟩
    · rw [hd] at h; cases h
    have hlen : 0 < (dg N).length := by rw [hd]; simp
    have hc0 : w.cell? ⟨a, 0, none⟩ = some (.int .u64 (N % B : Nat)) := by
      rw [hb.cell, hc 0 hlen]
      simp [hd]
    clear hc hb hd
    generalize (dg N).length = l at *
    generalize N % B = r at *
    have hl0 : ((l : Int) == 0) = false := by simp; omega
    go_enter Tryz.func92, Tryz.ntmps92
    go_wp2
    go_ret
    exact ⟨rfl, rfl⟩

set_option maxRecDepth 100000 in
set_option maxHeartbeats 400000 in
theorem int64_any (b : Nat) (z : Int) (S : List Nat) (w : World) (h : IntF w b z S) (h0 : -4611686018427387904 ≤ z) (h1 : z ≤ 4611686018427387904) :
    Calls Tryz.prog 60 #[.pointer (some ⟨b, 0, none⟩)] w fun e w' => e = .returned (.int .i64 z) ∧ w' = w := by
  obtain ⟨o, cap, T, hc0, hc1, hw, _⟩ := h.cells
  have hm : z.natAbs % B = z.natAbs := Nat.mod_eq_of_lt (by rw [B_eq]; omega)
  have hcall := low64_any _ _ _ w hw
  rw [hm] at hcall
  clear hm
  generalize (dg z.natAbs).length = l at *
  obtain ⟨n, hn⟩ : ∃ n, z.natAbs = n := ⟨_, rfl⟩
  rw [hn] at hcall
  have hnb : (n : Int) ≤ 4611686018427387904 := by omega
  have HN := Lib.hid hn
  have HC := Lib.hid hcall
  clear hn hcall
  by_cases hz : z < 0
  · have hd : decide (z < 0) = true := by simp [hz]
    rw [hd] at hc0
    have HZ := Lib.hid (show -(n : Int) = z by have := HN.out; omega)
    clear hz hd h0 h1
    go_enter Tryz.func60, Tryz.ntmps60
    go_wp2_with (go_at_call 92; refine HC.out.mono ?_; rintro e w' ⟨rfl, rfl⟩)
    go_ret
    exact ⟨by rw [← HZ.out]; rfl, rfl⟩
  · have hd : decide (z < 0) = false := by simp [hz]
    rw [hd] at hc0
    have HZ := Lib.hid (show (n : Int) = z by have := HN.out; omega)
    clear hz hd h0 h1
    go_enter Tryz.func60, Tryz.ntmps60
    go_wp2_with (go_at_call 92; refine HC.out.mono ?_; rintro e w' ⟨rfl, rfl⟩)
    go_ret
    exact ⟨by rw [← HZ.out]; rfl, rfl⟩

set_option maxRecDepth 100000 in
set_option maxHeartbeats 400000 in
theorem cmpAbs_any (bx bY : Nat) (x y : Int) (S T : List Nat) (w : World) (hx : IntF w bx x S) (hy : IntF w bY y T) :
    Calls Tryz.prog 59 #[.pointer (some ⟨bx, 0, none⟩), .pointer (some ⟨bY, 0, none⟩)] w fun e w' => e = .returned (.int .i64 (cmpI x.natAbs y.natAbs)) ∧ ∃ m, w' = w.drewN m := by
  obtain ⟨ox, cx, Tx, hx0, hx1, hxw, _⟩ := hx.cells
  obtain ⟨oy, cy, Ty, hy0, hy1, hyw, _⟩ := hy.cells
  go_enter Tryz.func59, Tryz.ntmps59
  go_wp2_with fail
  go_quiet ((go_at_call 41; exact Calls.quiet_of (ncmp_any _ _ x.natAbs y.natAbs _ _ _ (by exact hxw) (by exact hyw))))
  go_wp2
  go_ret
  exact ⟨rfl, _, rfl⟩

/-! ### bits.Div -/
set_option maxRecDepth 100000 in
set_option maxHeartbeats 400000 in
theorem div64_any (x y : Nat) (w : World) (hx : x < 18446744073709551616) (hy0 : 0 < y) (hy : y < 18446744073709551616) :
    Calls Tryz.prog 229 #[.int .u64 0, .int .u64 x, .int .u64 y] w fun e w' => e = .returned (.tuple #[.int .u64 ((x / y : Nat) : Int), .int .u64 ((x % y : Nat) : Int)]) ∧ ∃ m, w' = w.drewN m := by
  have h1 : ((y : Int) == 0) = false := by simp; omega
  have h2 : decide ((y : Int) ≤ 0) = false := by simp; omega
  have h3 : (0 : Int) < y := by omega
  go_enter Tryz.func229, Tryz.ntmps229
  go_wp2_with fail
  go_quiet (fail)
  go_wp2
  go_ret2
  have e1 : IntKind.u64.wrap ((x : Int) / (y : Int)) = ((x / y : Nat) : Int) := by
    rw [← Int.natCast_ediv, IntKind.wrap_u64]
    have : x / y ≤ x := Nat.div_le_self x y
    generalize x / y = q at *
    omega
  have e2 : ((x : Int) % (y : Int)) = ((x % y : Nat) : Int) := by omega
  exact ⟨by rw [← e1, ← e2]; rfl, _, rfl⟩

set_option maxRecDepth 100000 in
set_option maxHeartbeats 400000 in
theorem div_any (x y : Nat) (w : World) (hx : x < 18446744073709551616) (hy0 : 0 < y) (hy : y < 18446744073709551616) :
    Calls Tryz.prog 214 #[.int .u64 0, .int .u64 x, .int .u64 y] w fun e w' => e = .returned (.tuple #[.int .u64 ((x / y : Nat) : Int), .int .u64 ((x % y : Nat) : Int)]) ∧ ∃ m, w' = w.drewN m := by
  have HC := fun w => Lib.hid (div64_any x y w hx hy0 hy)
  go_enter Tryz.func214, Tryz.ntmps214
  go_wp2_with (go_at_call 229; refine (HC _).out.mono ?_; rintro e w' ⟨rfl, m, rfl⟩)
  go_ret2
  exact ⟨rfl, _, rfl⟩

/-! ### Cmp -/
def cmpZ (a b : Int) : Int := if a < b then -1 else if a = b then 0 else 1

end Go.Proofs.YtggoncneinlpgaaGreatDoor
namespace Go.Proofs.YtggoncneinlpgaaGreatDoor
open Go Go.RowKit Nt

set_option maxRecDepth 100000 in
set_option maxHeartbeats 400000 in
theorem divWVW_one (a cap ax cx X Y : Nat) (cs : Array Value) (w : World) (hb : Blk w a cs 80) (h1 : 1 ≤ cs.size) (hx : w.cell? ⟨ax, 0, none⟩ = some (.int .u64 X)) (hX : X < 18446744073709551616) (hY0 : 0 < Y) (hY : Y < 18446744073709551616) :
    Calls Tryz.prog 198 #[.slice (some ⟨a, 0, none⟩) 1 cap, .int .u64 0, .slice (some ⟨ax, 0, none⟩) 1 cx, .int .u64 Y] w fun e w' => e = .returned (.int .u64 ((X % Y : Nat) : Int)) ∧
      ∃ cs', Blk w' a cs' 80 ∧ cs'.size = cs.size ∧ cs'[0]? = some (.int .u64 ((X / Y : Nat) : Int)) ∧ Chg [a] w w' := by
  have HC := fun w => Lib.hid (div_any X Y w hX hY0 hY)
  have f0 := (hb.cell 0).trans (show cs[0]? = some (cs[0]'(by omega)) by simp)
  have g0 := hb.free 0
  generalize cs[0]'(by omega) = c0 at *
  go_enter Tryz.func198, Tryz.ntmps198
  go_wp2_with (go_at_call 214; refine (HC _).out.mono ?_; rintro e w' ⟨rfl, m, rfl⟩)
  go_ret
  obtain ⟨cs', hb', hs', hs0, _⟩ := Blk.of_set (w := w.drewN m) (i := 0) hb (.int .u64 ((X / Y : Nat) : Int)) (by omega)
  exact ⟨rfl, cs', hb', hs', hs0, ((Chg.refl _ _).drewN m).setCell (.inl (by simp)) _⟩

theorem dg_len_one {X : Nat} (h0 : X ≠ 0) (h : X < 18446744073709551616) : dg X = [X] := dg_one h0 (by rw [B_eq]; omega)

/-- What a division of words leaves: the quotient, its first result. -/
def DivRes (w : World) (S : List Nat) (Q R : Nat) (e : Ending) (w' : World) : Prop :=
  ∃ v S', e = .returned (.tuple #[v, .int .u64 R]) ∧ Wd w' v (dg Q) S' ∧ (∀ k, k ∈ S' → k ∈ S ∨ w.heap.size ≤ k) ∧ Chg S w w'

set_option maxRecDepth 100000 in
set_option maxHeartbeats 400000 in
theorem divW_one (v x : Value) (S T : List Nat) (X Y : Nat) (w : World) (hs : Sto w v S) (hx : Wd w x (dg X) T) (hX : X < 18446744073709551616) (hY0 : 0 < Y) (hY : Y < 18446744073709551616) :
    Calls Tryz.prog 180 #[v, x, .int .u64 Y] w (DivRes w S (X / Y) (X % Y)) := by
  have hy0 : ((Y : Int) == 0) = false := by simp; omega
  by_cases hY1 : Y = 1
  · subst hY1
    rw [Nat.div_one, Nat.mod_one]
    have hl : (dg X).length ≤ 1000000 := by have := @dg_length_le X 1 (by rw [B_eq]; omega); omega
    obtain ⟨ox, cx, rfl, _, _⟩ := wd_form hx
    go_enter Tryz.func180, Tryz.ntmps180
    go_wp2_with fail
    refine (nset_any v _ S T (dg X) w hs hx hl).mono ?_
    rintro e w1 ⟨v', S', rfl, h1, h2, h3⟩
    go_wp2
    go_ret2
    exact ⟨_, S', rfl, h1, h2, h3⟩
  · have hy1 : ((Y : Int) == 1) = false := by simp; omega
    by_cases hX0 : X = 0
    · subst hX0
      rw [Nat.zero_div, Nat.zero_mod]
      rw [dg_zero] at hx
      obtain ⟨ox, cx, rfl, _, _⟩ := wd_form hx
      obtain ⟨o, n, cap, rfl, hw⟩ := wd_nil hs
      have hbd := sto_bounds hs
      go_enter Tryz.func180, Tryz.ntmps180
      go_wp2
      go_ret2
      exact ⟨_, S, rfl, hw, fun k hk => .inl hk, Chg.refl _ _⟩
    · rw [dg_len_one hX0 hX] at hx
      rcases hx with ⟨_, _, h⟩ | ⟨ax, cx, csx, rfl, rfl, h1, h2, h3, hbx, hc⟩
      · cases h
      have hx0 : w.cell? ⟨ax, 0, none⟩ = some (.int .u64 X) := (hbx.cell 0).trans (hc 0 (by simp))
      go_enter Tryz.func180, Tryz.ntmps180
      go_wp2_with fail
      refine (make_any v S 1 w hs (by omega) (by omega)).mono ?_
      rintro e w1 ⟨a, cap, cs, rfl, h1', h2', h3', hb, ha, hc1, hq⟩
      have hx1 : w1.cell? ⟨ax, 0, none⟩ = some (.int .u64 X) := ((hbx.chg hc1 (by simp)).cell 0).trans (hc 0 (by simp))
      have HQ := Lib.hid hq
      clear hq
      go_wp2_with fail
      refine (divWVW_one a cap ax cx X Y cs w1 hb (by omega) hx1 hX hY0 hY).mono ?_
      rintro e w2 ⟨rfl, cs', hb', hs', hs0, hc2⟩
      go_wp2_with fail
      refine (norm_any a cap cs' [X / Y] w2 hb' (by simpa using h1') h2' (by omega) (fun i hi => by
        have : i = 0 := by simpa using hi
        subst this
        simpa using hs0) (Dig.cons (by rw [B_eq]; have := Nat.div_le_self X Y; omega) Dig.nil)).mono ?_
      rintro e w3 ⟨v', rfl, hw3, rfl⟩
      go_wp2
      go_ret2
      have e1 : nv [X / Y] = X / Y := by simp [nv]
      rw [e1] at hw3
      refine ⟨_, [a], rfl, hw3, ?_, ?_⟩
      · intro k hk
        simp at hk; subst hk; exact ha
      · exact (hc1.mono (by simp)).trans' hc2 (by intro k hk; simp at hk; subst hk; exact ha)

/-- What nat.div leaves of its first result. -/
def QuoRes (w : World) (S : List Nat) (Q : Nat) (e : Ending) (w' : World) : Prop :=
  ∃ v v2 S', e = .returned (.tuple #[v, v2]) ∧ Wd w' v (dg Q) S' ∧ (∀ k, k ∈ S' → k ∈ S ∨ w.heap.size ≤ k) ∧ Chg S w w'

set_option maxRecDepth 100000 in
set_option maxHeartbeats 400000 in
theorem ndiv_one (v x y : Value) (S T U : List Nat) (X Y : Nat) (w : World) (hs : Sto w v S) (hx : Wd w x (dg X) T) (hX : X < 18446744073709551616) (hy : Wd w y (dg Y) U) (hY0 : 0 < Y) (hY : Y < 18446744073709551616) :
    Calls Tryz.prog 154 #[v, .pointer none, .slice none 0 0, x, y] w (QuoRes w S (X / Y)) := by
  rw [dg_len_one (by omega) hY] at hy
  rcases hy with ⟨_, _, h⟩ | ⟨ay, cy, csy, rfl, rfl, h1, h2, h3, hby, hc⟩
  · cases h
  have hy0 : w.cell? ⟨ay, 0, none⟩ = some (.int .u64 Y) := (hby.cell 0).trans (hc 0 (by simp))
  go_enter_defers Tryz.func154, Tryz.ntmps154
  go_wp2_with fail
  refine (divW_one v x S T X Y w hs hx hX hY0 hY).mono ?_
  rintro e w1 ⟨v', S', rfl, hw1, hS1, hc1⟩
  go_wp2_with fail
  refine (setWord_any (.slice none 0 0) [] (X % Y) w1 (.inl ⟨rfl, rfl⟩) (by have := Nat.mod_lt X hY0; omega)).mono ?_
  rintro e w2 ⟨v2, S2, rfl, hw2, hS2, hc2⟩
  go_wp2
  exact ⟨_, results_tmp2 rfl _ _ _, v', v2, S', rfl, hw1.to (fun k hk => hc2.block k (hw1.lt k hk) (by simp)), hS1, hc1.trans (hc2.mono (by simp))⟩

end Go.Proofs.YtggoncneinlpgaaGreatDoor
