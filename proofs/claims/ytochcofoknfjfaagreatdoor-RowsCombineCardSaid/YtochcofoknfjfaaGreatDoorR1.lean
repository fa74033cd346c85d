/- Walks of the reference's small functions: Large, SameInts, gcd. -/
import Derived.Test.YtochcofoknfjfaaGreatDoorRow
namespace Go.Proofs.YtochcofoknfjfaaGreatDoor
open Go Go.RowKit Nt

def bigB (z : Int) : Bool := decide (2147483648 < z) || decide (z < -2147483648)
def largeB (zs : List Int) : Bool := zs.any bigB

set_option maxRecDepth 100000 in
set_option maxHeartbeats 1000000 in
theorem rlarge_any (v : Value) (zs : List Int) (w : World) (hv : SliceI w v zs) (hl : zs.length ≤ 1000000) :
    Calls Tryz.prog 9 #[v] w fun e w' => e = .returned (.bool (largeB zs)) ∧ w' = w := by
  obtain ⟨o, cap, rfl, hc⟩ := hv
  obtain ⟨n, hn⟩ : ∃ n, zs.length = n := ⟨_, rfl⟩
  rw [hn] at hl ⊢
  have HN := Lib.hid hn
  have HC := Lib.hid hc
  clear hn hc
  go_enter Tryz.func9, Tryz.ntmps9
  go_wp2
  go_loop [3] (fun i => ∃ k : Nat, k ≤ n ∧ i = .int .i64 k ∧ Hid (largeB (zs.take k) = false)) (fun i => n - (intOf i).toNat)
  case atStart => exact ⟨0, Nat.zero_le _, rfl, rfl⟩
  case round =>
    obtain ⟨k, hk, rfl, hf⟩ := hrel
    by_cases hlt : k < n
    · have hk' : k < zs.length := by have := HN.out; omega
      obtain ⟨b, off, rfl, hbl, hcs⟩ := HC.out (by intro e; rw [e] at hk'; simp at hk')
      have hcell : w.cell? ⟨b, off + k, none⟩ = some (.int .i64 zs[k]) := hcs k hk'
      have HT := Lib.hid (show largeB (zs.take (k + 1)) = bigB zs[k] by
        rw [List.take_succ_eq_append_getElem hk', largeB, List.any_append]
        have := hf.out
        unfold largeB at this
        rw [this]
        simp)
      have HY : bigB zs[k] = true → Hid (largeB zs = true) := fun h => by
        show largeB zs = true
        unfold largeB
        rw [List.any_eq_true]
        exact ⟨_, List.getElem_mem hk', h⟩
      obtain ⟨z, hz⟩ : ∃ z, zs[k] = z := ⟨_, rfl⟩
      rw [hz] at hcell HT HY
      clear hz hcs
      by_cases hb : bigB z = true
      · have HR := HY hb
        clear HT HY
        unfold bigB at hb
        by_cases h1 : 2147483648 < z
        · clear hb
          go_wp2
          go_ret
          exact ⟨by rw [HR.out]; rfl, rfl⟩
        · have h2 : z < -2147483648 := by simpa [h1] using hb
          have h1' : decide (2147483648 < z) = false := by simp [h1]
          clear hb h1
          go_wp2
          go_ret
          exact ⟨by rw [HR.out]; rfl, rfl⟩
      · rw [Bool.not_eq_true] at hb
        have HF := Lib.hid (HT.out.trans hb)
        clear HT HY
        have h1 : decide (2147483648 < z) = false := by unfold bigB at hb; simp at hb; simp; omega
        have h2 : decide (z < -2147483648) = false := by unfold bigB at hb; simp at hb; simp; omega
        clear hb
        go_wp2
        go_round
        case rel => exact ⟨k + 1, by omega, by go_num, HF⟩
        case measure => simp [intOf]; omega
    · obtain rfl : k = n := by omega
      have HF := Lib.hid (show largeB zs = false by have := hf.out; have h := HN.out; rwa [List.take_of_length_le (by omega)] at this)
      go_wp2
      go_ret
      exact ⟨by rw [HF.out]; rfl, rfl⟩

set_option maxRecDepth 100000 in
set_option maxHeartbeats 1000000 in
theorem rsame_any (v u : Value) (xs ys : List Int) (w : World) (hv : SliceI w v xs) (hu : SliceI w u ys) (hl : xs.length ≤ 1000000) :
    Calls Tryz.prog 10 #[v, u] w fun e w' => e = .returned (.bool (decide (xs = ys))) ∧ ∃ q, w' = w.drewN q := by
  obtain ⟨o, cap, rfl, hc⟩ := hv
  obtain ⟨o', cap', rfl, hc'⟩ := hu
  by_cases hlen : xs.length = ys.length
  · obtain ⟨n, hn⟩ : ∃ n, xs.length = n := ⟨_, rfl⟩
    rw [← hlen, hn]
    rw [hn] at hl hlen
    have HN := Lib.hid hn
    have HN' := Lib.hid hlen
    have HC := Lib.hid hc
    have HC' := Lib.hid hc'
    clear hn hc hlen hc'
    go_enter Tryz.func10, Tryz.ntmps10
    go_wp2
    go_loopw [5] (fun i wr => ∃ k q : Nat, k ≤ n ∧ i = .int .i64 k ∧ Hid (∀ j (h : j < xs.length) (h' : j < ys.length), j < k → xs[j] = ys[j]) ∧ wr = w.drewN q) (fun i _ => n - (intOf i).toNat)
    case atStart => exact ⟨0, 0, Nat.zero_le _, rfl, fun j _ _ h => by omega, rfl⟩
    case round =>
      obtain ⟨k, q, hk, rfl, hf, rfl⟩ := hrel
      by_cases hlt : k < n
      · have hkx : k < xs.length := by have := HN.out; omega
        have hky : k < ys.length := by have := HN'.out; omega
        obtain ⟨b, off, rfl, hbl, hcs⟩ := HC.out (by intro e; rw [e] at hkx; simp at hkx)
        obtain ⟨b', off', rfl, hbl', hcs'⟩ := HC'.out (by intro e; rw [e] at hky; simp at hky)
        have hcell : w.cell? ⟨b, off + k, none⟩ = some (.int .i64 xs[k]) := hcs k hkx
        have hcell' : w.cell? ⟨b', off' + k, none⟩ = some (.int .i64 ys[k]) := hcs' k hky
        obtain ⟨x, hx⟩ : ∃ x, xs[k] = x := ⟨_, rfl⟩
        obtain ⟨y, hy⟩ : ∃ y, ys[k] = y := ⟨_, rfl⟩
        rw [hx] at hcell
        rw [hy] at hcell'
        have HX := Lib.hid hx
        have HY := Lib.hid hy
        clear hx hy hcs hcs'
        by_cases hxy : x = y
        · subst hxy
          go_wp2_with fail
          go_quiet (fail)
          go_wp2
          go_roundw
          case rel =>
            refine ⟨k + 1, _, by omega, by go_num, fun j h h' hj => ?_, by rfl⟩
            by_cases e : j = k
            · subst e; rw [HX.out, HY.out]
            · exact hf.out j h h' (by omega)
          case measure => simp [intOf]; omega
        · have hne : (x != y) = true := by simpa using hxy
          have HR := Lib.hid (show decide (xs = ys) = false by
            simp only [decide_eq_false_iff_not]
            intro e
            subst e
            exact hxy (HX.out.symm.trans HY.out))
          clear hxy
          go_wp2_with fail
          go_quiet (fail)
          go_wp2
          go_ret
          exact ⟨by rw [HR.out]; rfl, _, by simp only [World.drewN_drewN]; rfl⟩
      · obtain rfl : k = n := by omega
        have HR := Lib.hid (show decide (xs = ys) = true by
          simp only [decide_eq_true_eq]
          have h1 := HN.out
          have h2 := HN'.out
          exact List.ext_getElem (by omega) fun j h h' => hf.out j h h' (by omega))
        go_wp2
        go_ret
        exact ⟨by rw [HR.out]; rfl, _, rfl⟩
  · have HR := Lib.hid (show decide (xs = ys) = false by
      simp only [decide_eq_false_iff_not]
      intro e
      exact hlen (congrArg _ e))
    have hne : ((xs.length : Int) != (ys.length : Int)) = true := by simp; omega
    clear hc hc' hlen
    generalize xs.length = m at *
    generalize ys.length = n at *
    go_enter Tryz.func10, Tryz.ntmps10
    go_wp2
    go_ret
    exact ⟨by rw [HR.out]; rfl, 0, rfl⟩

set_option maxRecDepth 100000 in
set_option maxHeartbeats 1000000 in
theorem rgcd_any (a b : Int) (w : World) (ha : -9223372036854775807 ≤ a ∧ a ≤ 9223372036854775807) (hb : -9223372036854775807 ≤ b ∧ b ≤ 9223372036854775807) :
    Calls Tryz.prog 38 #[.int .i64 a, .int .i64 b] w fun e w' => e = .returned (.int .i64 (Nat.gcd a.natAbs b.natAbs)) ∧ ∃ q, w' = w.drewN q := by
  obtain ⟨X, hX⟩ : ∃ X, a.natAbs = X := ⟨_, rfl⟩
  obtain ⟨Y, hY⟩ : ∃ Y, b.natAbs = Y := ⟨_, rfl⟩
  rw [hX, hY]
  have hX' : (X : Int) ≤ 9223372036854775807 := by omega
  have hY' : (Y : Int) ≤ 9223372036854775807 := by omega
  by_cases h1 : a < 0 <;> by_cases h2 : b < 0
  all_goals
    have HX := Lib.hid (show (if a < 0 then -a else a) = X by simp only [h1, if_true, if_false]; omega)
    have HY := Lib.hid (show (if b < 0 then -b else b) = Y by simp only [h2, if_true, if_false]; omega)
    simp only [h1, h2, if_true, if_false] at HX HY
    clear hX hY
    go_enter Tryz.func38, Tryz.ntmps38
    go_wp2
    go_loopw [0, 1] (fun s t wr => ∃ (x y q : Nat), s = .int .i64 x ∧ t = .int .i64 y ∧ (x : Int) ≤ 9223372036854775807 ∧ (y : Int) ≤ 9223372036854775807 ∧ Hid (Nat.gcd x y = Nat.gcd X Y) ∧ wr = w.drewN q) (fun _ t _ => (intOf t).toNat)
    case atStart => exact ⟨X, Y, 0, by rw [HX.out], by rw [HY.out], hX', hY', rfl, rfl⟩
    case round =>
      obtain ⟨x, y, q, rfl, rfl, hx64, hy64, hg, rfl⟩ := hrel
      by_cases hy0 : y = 0
      · subst hy0
        have HR := Lib.hid (show (x : Nat) = Nat.gcd X Y by have := hg.out; simpa using this)
        go_wp2
        go_ret
        exact ⟨by rw [← HR.out]; rfl, q, rfl⟩
      · have hyb : ((y : Int) != 0) = true := by simp; omega
        have hyp : (0 : Int) < y := by omega
        go_wp2_with fail
        go_quiet (fail)
        go_wp2
        go_roundw
        case rel => exact ⟨y, x % y, _, rfl, by simp only [Int.natCast_emod], hy64, by have := Nat.mod_lt x (show 0 < y by omega); omega, by show Nat.gcd y (x % y) = _; rw [← hg.out, Nat.gcd_comm y, ← Nat.gcd_rec, Nat.gcd_comm], by simp only [World.drewN_drewN]; rfl⟩
        case measure => simp [intOf]; have := Nat.mod_lt x (show 0 < y by omega); omega
end Go.Proofs.YtochcofoknfjfaaGreatDoor
