/- Walks of the reference: TameAll, DotOf. -/
import Derived.Test.YtggoncneinlpgaaGreatDoorH67
import Derived.Test.YtggoncneinlpgaaGreatDoorC3
namespace Go.Proofs.YtggoncneinlpgaaGreatDoor
open Go Go.RowKit Nt

set_option maxRecDepth 100000 in
set_option maxHeartbeats 1000000 in
theorem tameAll_any (v : Value) (m : List (List Int)) (w : World) (hv : MatAt w v m) (hl : m.length ≤ 1000) (hM : ∀ r ∈ m, r.length ≤ 1000000) :
    Calls Tryz.prog 12 #[v] w fun e w' => e = .returned (.bool (!m.any wildB)) ∧ w = w' := by
  have HV := Lib.hid hv
  have HM := Lib.hid hM
  obtain ⟨o, cap, rfl, hc⟩ := hv
  clear hc hM
  obtain ⟨n, hn⟩ : ∃ n, m.length = n := ⟨_, rfl⟩
  rw [hn] at HV hl ⊢
  have HN := Lib.hid hn
  clear hn
  go_enter Tryz.func12, Tryz.ntmps12
  go_wp2_with fail
  go_loop [3] (fun i => ∃ k : Nat, k ≤ n ∧ i = .int .i64 k ∧ Hid ((m.take k).any wildB = false)) (fun i => n - (intOf i).toNat)
  case atStart => exact ⟨0, Nat.zero_le _, rfl, rfl⟩
  case round =>
    obtain ⟨k, hk, rfl, hf⟩ := hrel
    by_cases hlt : k < n
    · have hk' : k < m.length := by have := HN.out; omega
      obtain ⟨b, off, cap', oa, ca, e1, hbl, h2, h3⟩ := HV.out.get hk'
      simp only [Value.slice.injEq] at e1
      obtain ⟨rfl, hnn, rfl⟩ := e1
      clear hnn
      have HC := Lib.hid (rtame_any _ m[k] w h3 (HM.out _ (List.getElem_mem hk')))
      have HT := Lib.hid (show (m.take (k + 1)).any wildB = wildB m[k] by rw [List.take_succ_eq_append_getElem hk', List.any_append, hf.out]; simp)
      have HY : wildB m[k] = true → Hid (m.any wildB = true) := fun h => by
        show m.any wildB = true
        rw [List.any_eq_true]
        exact ⟨_, List.getElem_mem hk', h⟩
      clear h3
      obtain ⟨wb, hwb⟩ : ∃ b, wildB m[k] = b := ⟨_, rfl⟩
      rw [hwb] at HC HT HY
      generalize (m[k]'hk').length = la at *
      clear hwb
      cases wb
      · clear HY
        go_wp2_with fail
        refine HC.out.mono ?_
        rintro e w1 ⟨rfl, rfl⟩
        go_wp2_with fail
        go_round
        case rel => exact ⟨k + 1, by omega, by go_num, HT⟩
        case measure => simp [intOf]; omega
      · have HR := HY rfl
        clear HY HT
        go_wp2_with fail
        refine HC.out.mono ?_
        rintro e w1 ⟨rfl, rfl⟩
        go_wp2_with fail
        go_ret
        exact ⟨by rw [HR.out]; rfl, rfl⟩
    · obtain rfl : k = n := by omega
      have HF := Lib.hid (show m.any wildB = false by have := hf.out; have h := HN.out; rwa [List.take_of_length_le (by omega)] at this)
      go_wp2_with fail
      go_ret
      exact ⟨by rw [HF.out]; rfl, rfl⟩

theorem dotT_bound {xs ys : List Int} (hx : ∀ z ∈ xs, -30 ≤ z ∧ z ≤ 30) (hy : Half ys) : (dotZ xs ys).natAbs ≤ xs.length * 64424509440 := by
  induction xs generalizing ys with
  | nil => simp [dotZ]
  | cons x xs ih =>
    cases ys with
    | nil => simp [dotZ]
    | cons y ys =>
      have h1 := ih (ys := ys) (fun z hz => hx z (List.mem_cons_of_mem _ hz)) (fun z hz => hy z (List.mem_cons_of_mem _ hz))
      have h2 : (x * y).natAbs ≤ 30 * 2147483648 := by
        rw [Int.natAbs_mul]
        exact Nat.mul_le_mul (by have := hx x (List.mem_cons_self ..); omega) (hy y (List.mem_cons_self ..))
      simp only [dotZ, List.length_cons, Nat.add_mul, Nat.one_mul]
      have := Int.natAbs_add_le (x * y) (dotZ xs ys)
      omega

set_option maxRecDepth 100000 in
set_option maxHeartbeats 1000000 in
theorem dotOf_any (v u : Value) (xs ys : List Int) (w : World) (hv : SliceI w v xs) (hu : SliceI w u ys) (hlen : xs.length = ys.length) (hx : ∀ z ∈ xs, -30 ≤ z ∧ z ≤ 30) (hy : Half ys) (hl : xs.length ≤ 1000) :
    Calls Tryz.prog 13 #[v, u] w fun e w' => e = .returned (.int .i64 (dotZ xs ys)) ∧ ∃ q, w' = w.drewN q := by
  have HV := Lib.hid hv
  have HU := Lib.hid hu
  have HLEN := Lib.hid hlen
  have HX := Lib.hid hx
  have HY := Lib.hid hy
  obtain ⟨o, cap, rfl, h1⟩ := hv
  obtain ⟨o', cap', rfl, h2⟩ := hu
  obtain ⟨m, hm⟩ : ∃ m, xs.length = m := ⟨_, rfl⟩
  rw [← hlen] at HU ⊢
  rw [hm] at HV HU hl ⊢
  have HM := Lib.hid hm
  clear h1 h2 hm hlen hx hy
  go_enter Tryz.func13, Tryz.ntmps13
  go_wp2_with fail
  go_loopw [5, 6] (fun s i wr => ∃ k q : Nat, k ≤ m ∧ i = .int .i64 k ∧ s = .int .i64 (dotZ (xs.take k) (ys.take k)) ∧ wr = w.drewN q) (fun _ i _ => m - (intOf i).toNat)
  case atStart => exact ⟨0, 0, Nat.zero_le _, rfl, by simp [dotZ], rfl⟩
  case round =>
    obtain ⟨k, q, hk, rfl, rfl, rfl⟩ := hrel
    by_cases hlt : k < m
    · have hkx : k < xs.length := by have := HM.out; omega
      have hky : k < ys.length := by have := HM.out; have := HLEN.out; omega
      obtain ⟨o1, c1, e1, hc1⟩ := HV.out
      obtain ⟨b, off, hoe, _, hcs⟩ := hc1 (by intro e; rw [e] at hkx; simp at hkx)
      simp only [Value.slice.injEq] at e1
      obtain ⟨rfl, hn1, rfl⟩ := e1
      subst hoe
      obtain ⟨o2, c2, e2, hc2⟩ := HU.out
      obtain ⟨b', off', hoe', _, hcs'⟩ := hc2 (by intro e; rw [e] at hky; simp at hky)
      simp only [Value.slice.injEq] at e2
      obtain ⟨rfl, hn2, rfl⟩ := e2
      subst hoe'
      have hcell := hcs k hkx
      have hcell' := hcs' k hky
      have hX := HX.out _ (List.getElem_mem hkx)
      have hY := HY.out _ (List.getElem_mem hky)
      have hP : (xs[k] * ys[k]).natAbs ≤ 30 * 2147483648 := by
        rw [Int.natAbs_mul]
        exact Nat.mul_le_mul (by omega) hY
      have hD := dotT_bound (xs := xs.take k) (ys := ys.take k) (fun z hz => HX.out z (List.mem_of_mem_take hz)) (HY.out.take k)
      have hlk : (xs.take k).length ≤ 1000 := by rw [List.length_take]; omega
      have hlk2 := Nat.mul_le_mul_right 64424509440 hlk
      have HT := Lib.hid (dotZ_take (k := k) hkx hky)
      obtain ⟨x, hxk⟩ : ∃ x, xs[k] = x := ⟨_, rfl⟩
      obtain ⟨y, hyk⟩ : ∃ y, ys[k] = y := ⟨_, rfl⟩
      rw [hxk] at hcell hP HT
      rw [hyk] at hcell' hP HT
      obtain ⟨s, hsk⟩ : ∃ s, dotZ (xs.take k) (ys.take k) = s := ⟨_, rfl⟩
      rw [hsk] at HT hD ⊢
      obtain ⟨p, hp⟩ : ∃ p, x * y = p := ⟨_, rfl⟩
      have hwp : IntKind.i64.wrap (x * y) = p := by rw [← hp]; exact IntWalk.i64_in _ (by omega)
      rw [hp] at HT hP
      have hws : IntKind.i64.wrap (s + p) = s + p := IntWalk.i64_in _ (by omega)
      clear hxk hyk hcs hcs' hc1 hc2 hP hsk hp hD hlk hlk2 hn1 hn2 hX hY
      go_wp2_with fail
      go_quiet (fail)
      clear hwp hws hcell hcell'
      go_wp2_with fail
      go_roundw
      case rel => exact ⟨k + 1, _, by omega, by go_num, by rw [HT.out], rfl⟩
      case measure => simp [intOf]; omega
    · obtain rfl : k = m := by omega
      rw [show dotZ (xs.take k) (ys.take k) = dotZ xs ys by
        have h1 := HM.out
        have h2 := HLEN.out
        rw [List.take_of_length_le (by omega), List.take_of_length_le (by omega)]]
      go_wp2_with fail
      go_ret
      exact ⟨rfl, _, rfl⟩
end Go.Proofs.YtggoncneinlpgaaGreatDoor
