/- Walk: the law RowsDot, at two rows of one length, no number large. -/
import Derived.Test.YtochcofoknfjfaaGreatDoorD4
namespace Go.Proofs.YtochcofoknfjfaaGreatDoor
open Go Go.RowKit Nt

set_option maxRecDepth 100000 in
set_option maxHeartbeats 2000000 in
theorem lawDot_main (v u : Value) (xs ys : List Int) (a : Nat → Addr) (w : World) (he : ErrW w a) (hv : SliceI w v xs) (hu : SliceI w u ys) (hx : xs.length ≤ 400) (hlen : xs.length = ys.length) (hlx : largeB xs = false) (hly : largeB ys = false) :
    Calls Tryz.prog 6 #[v, u] w fun e w' => e = .returned (.bool true) ∧ Below w.heap.size w w' := by
  have HV := Lib.hid hv
  have HU := Lib.hid hu
  have HE := Lib.hid he
  have HX := Lib.hid hx
  have HLEN := Lib.hid hlen
  have HFX := Lib.hid (half_of hlx)
  have HFY := Lib.hid (half_of hly)
  have HLX := Lib.hid hlx
  have HLY := Lib.hid hly
  obtain ⟨o, cap, rfl, h1⟩ := hv
  obtain ⟨o', cap', rfl, h2⟩ := hu
  have hm' : decide (400 < (xs.length : Int)) = false := by simp; omega
  have hh := Lib.hid (halves_any w)
  obtain ⟨ev, hev⟩ : ∃ ev, dotErr a (dotZ xs ys) = ev := ⟨_, rfl⟩
  obtain ⟨nv, hnv⟩ : ∃ nv, dotNum (dotZ xs ys) = nv := ⟨_, rfl⟩
  have HEV := Lib.hid hev
  have HNV := Lib.hid hnv
  rw [← hlen] at HU ⊢
  obtain ⟨m, hm⟩ : ∃ m, xs.length = m := ⟨_, rfl⟩
  have HM := Lib.hid hm
  rw [hm] at hm' HV HU ⊢
  have hm4 : m ≤ 400 := by omega
  clear he h1 h2 hx hlen hlx hly hev hnv hm
  go_enter Tryz.func6, Tryz.ntmps6
  go_wp2_with fail
  refine hh.out.mono ?_
  rintro e w1 ⟨rfl, hb1⟩
  go_wp2_with fail
  refine (ints_any _ xs w1 (HV.out.below hb1 (Nat.le_refl _)) (by have := HX.out; omega)).mono ?_
  rintro e w2 ⟨u2, rfl, hu2, hb2⟩
  have hb02 := hb1.trans (hb2.mono hb1.size)
  have HU2 := Lib.hid hu2
  go_wp2_with fail
  refine (ints_any _ ys w2 (HU.out.below hb02 (Nat.le_refl _)) (by have := HX.out; have := HLEN.out; omega)).mono ?_
  rintro e w3 ⟨u3, rfl, hu3, hb3⟩
  have hb03 := hb02.trans (hb3.mono hb02.size)
  have HD := Lib.hid (rdot_any u2 u3 xs ys a w3 (HE.out.below hb03 (Nat.le_refl _)) (HU2.out.below hb3 (Nat.le_refl _)) hu3 HLEN.out (by have := HX.out; omega) HLX.out HLY.out)
  rw [HEV.out, HNV.out] at HD
  have HB3 := Lib.hid hb03
  clear hu3 hu2 hb3 hb2 hb1 hb02 hb03
  go_wp2_with fail
  refine HD.out.mono ?_
  rintro e w4 ⟨rfl, hb4⟩
  have hb04 := HB3.out.trans (hb4.mono HB3.out.size)
  have HB4 := Lib.hid hb04
  have HLA := Lib.hid (rlarge_any _ xs w4 (HV.out.below HB4.out (Nat.le_refl _)) (by have := HX.out; omega))
  have HLB := Lib.hid (rlarge_any _ ys w4 (HU.out.below HB4.out (Nat.le_refl _)) (by have := HX.out; have := HLEN.out; omega))
  rw [HLX.out] at HLA
  rw [HLY.out] at HLB
  clear hb4 hb04 HD
  go_wp2_with fail
  refine HLA.out.mono ?_
  rintro e w5 ⟨rfl, rfl⟩
  go_wp2_with fail
  refine HLB.out.mono ?_
  rintro e w6 ⟨rfl, rfl⟩
  clear HLA HLB
  obtain ⟨w4, rfl⟩ : ∃ w : World, w = w6 := ⟨_, rfl⟩
  go_wp2_with fail
  go_loopw [8, 9] (fun s i wr => ∃ k q : Nat, k ≤ m ∧ i = .int .i64 k ∧ s = .int .i64 (dotZ (xs.take k) (ys.take k)) ∧ -3458764513820540928 ≤ dotZ (xs.take k) (ys.take k) ∧ dotZ (xs.take k) (ys.take k) ≤ 3458764513820540928 ∧ wr = w4.drewN q) (fun _ i _ => m - (intOf i).toNat)
  case atStart => exact ⟨0, 0, Nat.zero_le _, rfl, by simp [dotZ], by simp [dotZ], by simp [dotZ], rfl⟩
  case round =>
    obtain ⟨k, q, hk, rfl, rfl, hlo, hhi, rfl⟩ := hrel
    by_cases hlt : k < m
    · have hkx : k < xs.length := by have := HM.out; omega
      have hky : k < ys.length := by have := HM.out; have := HLEN.out; omega
      obtain ⟨o1, c1, e1, hc1⟩ := HV.out.below HB4.out (Nat.le_refl _)
      obtain ⟨b, off, hoe, _, hcs⟩ := hc1 (by intro e; rw [e] at hkx; simp at hkx)
      simp only [Value.slice.injEq] at e1
      obtain ⟨rfl, _, rfl⟩ := e1
      subst hoe
      obtain ⟨o2, c2, e2, hc2⟩ := HU.out.below HB4.out (Nat.le_refl _)
      obtain ⟨b', off', hoe', _, hcs'⟩ := hc2 (by intro e; rw [e] at hky; simp at hky)
      simp only [Value.slice.injEq] at e2
      obtain ⟨rfl, _, rfl⟩ := e2
      subst hoe'
      have hcell := hcs k hkx
      have hcell' := hcs' k hky
      have hP := half_prod (HFX.out _ (List.getElem_mem hkx)) (HFY.out _ (List.getElem_mem hky))
      have HT := Lib.hid (dotZ_take (k := k) hkx hky)
      obtain ⟨x, hxk⟩ : ∃ x, xs[k] = x := ⟨_, rfl⟩
      obtain ⟨y, hyk⟩ : ∃ y, ys[k] = y := ⟨_, rfl⟩
      rw [hxk] at hcell hP HT
      rw [hyk] at hcell' hP HT
      obtain ⟨s, hsk⟩ : ∃ s, dotZ (xs.take k) (ys.take k) = s := ⟨_, rfl⟩
      rw [hsk] at HT hlo hhi ⊢
      have hp1 : -4611686018427387904 ≤ x * y := by omega
      have hp2 : x * y ≤ 4611686018427387904 := by omega
      obtain ⟨p, hp⟩ : ∃ p, x * y = p := ⟨_, rfl⟩
      have hwp : IntKind.i64.wrap (x * y) = p := by rw [← hp]; exact IntWalk.i64_in _ (by omega)
      rw [hp] at HT hp1 hp2
      clear hxk hyk hcs hcs' hc1 hc2 hP hsk hp
      go_wp2_with fail
      go_quiet (fail)
      clear hwp hcell hcell'
      by_cases h1 : 2305843009213693952 < p
      · have d1 : decide (2305843009213693952 < p) = true := by simpa using h1
        clear h1
        go_wp2_with fail
        go_ret
        exact ⟨rfl, below_drewN' HB4.out _⟩
      · have d1 : decide (2305843009213693952 < p) = false := by simpa using h1
        by_cases h2 : p < -2305843009213693952
        · have d2 : decide (p < -2305843009213693952) = true := by simpa using h2
          clear h1 h2
          go_wp2_with fail
          go_ret
          exact ⟨rfl, below_drewN' HB4.out _⟩
        · have d2 : decide (p < -2305843009213693952) = false := by simpa using h2
          by_cases h3 : 1152921504606846976 < s
          · have d3 : decide (1152921504606846976 < s) = true := by simpa using h3
            clear h1 h2 h3
            go_wp2_with fail
            go_ret
            exact ⟨rfl, below_drewN' HB4.out _⟩
          · have d3 : decide (1152921504606846976 < s) = false := by simpa using h3
            by_cases h4 : s < -1152921504606846976
            · have d4 : decide (s < -1152921504606846976) = true := by simpa using h4
              clear h1 h2 h3 h4
              go_wp2_with fail
              go_ret
              exact ⟨rfl, below_drewN' HB4.out _⟩
            · have d4 : decide (s < -1152921504606846976) = false := by simpa using h4
              have b1 : p ≤ 2305843009213693952 := by omega
              have b2 : -2305843009213693952 ≤ p := by omega
              have b3 : s ≤ 1152921504606846976 := by omega
              have b4 : -1152921504606846976 ≤ s := by omega
              clear h1 h2 h3 h4 hp1 hp2 hlo hhi
              go_wp2_with fail
              go_roundw
              case rel => exact ⟨k + 1, _, by omega, by go_num, by rw [HT.out], by rw [HT.out]; omega, by rw [HT.out]; omega, rfl⟩
              case measure => simp [intOf]; omega
    · obtain rfl : k = m := by omega
      have hD : dotZ (xs.take k) (ys.take k) = dotZ xs ys := by
        have h1 := HM.out
        have h2 := HLEN.out
        rw [List.take_of_length_le (by omega), List.take_of_length_le (by omega)]
      rw [hD] at hlo hhi ⊢
      obtain rfl : nv = dotZ xs ys := by rw [← HNV.out]; exact if_pos (by omega)
      obtain rfl : ev = .nilIface := by rw [← HEV.out]; exact if_pos (by omega)
      have HB5 := Lib.hid (below_drewN' HB4.out q)
      obtain ⟨d, hd⟩ : ∃ d, dotZ xs ys = d := ⟨_, rfl⟩
      rw [hd] at hlo hhi ⊢
      have d1 : decide (4611686018427387904 < d) = false := by simp; omega
      have d2 : decide (d < -4611686018427387904) = false := by simp; omega
      clear hD hd hlo hhi HNV HEV
      go_wp2_with fail
      go_ret
      exact ⟨rfl, HB5.out⟩

/-- The law RowsDot answers true whatever the rows are. -/
theorem law_dot (v u : Value) (xs ys : List Int) (a : Nat → Addr) (w : World) (he : ErrW w a) (hv : SliceI w v xs) (hu : SliceI w u ys) :
    Calls Tryz.prog 6 #[v, u] w fun e w' => e = .returned (.bool true) ∧ Below w.heap.size w w' := by
  by_cases hf : 400 < xs.length ∨ 400 < ys.length
  · exact lawDot_far v u xs ys w hv hu hf
  · by_cases hlen : xs.length = ys.length
    · by_cases hlg : (largeB xs || largeB ys) = true
      · exact lawDot_large v u xs ys a w he hv hu (by omega) hlen hlg
      · simp only [Bool.or_eq_true, not_or, Bool.not_eq_true] at hlg
        exact lawDot_main v u xs ys a w he hv hu (by omega) hlen hlg.1 hlg.2
    · exact lawDot_shape v u xs ys a w he hv hu (by omega) (by omega) hlen
end Go.Proofs.YtochcofoknfjfaaGreatDoor
