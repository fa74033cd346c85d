/- Walks: Int.lehmerGCD at one word, Int.GCD. Walk: Int.lehmerGCD at one word, the first number being the smaller one; Int.GCD. -/
import Derived.Test.YtggoncneinlpgaaGreatDoorW7
namespace Go.Proofs.YtggoncneinlpgaaGreatDoor
open Go Go.RowKit Nt

theorem intF_new (w : World) : IntF (w.alloc (.cells #[.bool false, .slice none 0 0] 62)) w.heap.size 0 [w.heap.size] := intF_zero (Blk.new _ _ _)

/-- A number of one word: its cells. -/
theorem IntF.word {w : World} {b : Nat} {z : Int} {S : List Nat} (h : IntF w b z S) (h0 : z ≠ 0) (hl : z.natAbs < 18446744073709551616) :
    ∃ a cap cs, S = [b, a] ∧ Blk w b #[.bool (decide (z < 0)), .slice (some ⟨a, 0, none⟩) 1 cap] 62 ∧ Blk w a cs 80 ∧ cs[0]? = some (.int .u64 z.natAbs) ∧ 1 ≤ cap ∧ cap ≤ 4294967296 ∧ cs.size = cap := by
  obtain ⟨v, T, hb, hw, rfl⟩ := h
  rw [dg_len_one (by omega) hl] at hw
  rcases hw with ⟨_, _, h⟩ | ⟨a, cap, cs, rfl, rfl, h1, h2, h3, hba, hc⟩
  · cases h
  · exact ⟨a, cap, cs, rfl, hb, hba, hc 0 (by simp), h1, h2, h3⟩

/-- .. and back. -/
theorem IntF.of_word {w : World} {b a cap : Nat} {z : Int} {cs : Array Value} {neg : Bool} (h0 : z ≠ 0) (hl : z.natAbs < 18446744073709551616) (hn : neg = decide (z < 0))
    (hb : Blk w b #[.bool neg, .slice (some ⟨a, 0, none⟩) 1 cap] 62) (ha : Blk w a cs 80) (hc : cs[0]? = some (.int .u64 z.natAbs)) (h1 : 1 ≤ cap) (h2 : cap ≤ 4294967296) (h3 : cs.size = cap) :
    IntF w b z [b, a] := by
  subst hn
  refine ⟨_, [a], hb, ?_, rfl⟩
  have e := dg_len_one (X := z.natAbs) (by omega) hl
  refine .inr ⟨a, cap, cs, by rw [e]; rfl, rfl, by rw [e]; exact h1, h2, h3, ha, ?_⟩
  rw [e]
  intro i hi
  have : i = 0 := by simpa using hi
  subst this
  simpa using hc

set_option maxRecDepth 100000 in
set_option maxHeartbeats 2000000 in
theorem lehmer_ge (bz ba bb : Nat) (z a b : Int) (S Sa Sb : List Nat) (w : World) (hz : IntF w bz z S) (ha : IntF w ba a Sa) (hb : IntF w bb b Sb)
    (_ha0 : a ≠ 0) (_hb0 : b ≠ 0) (hal : a.natAbs < 18446744073709551616) (hbl : b.natAbs < 18446744073709551616) (hge : b.natAbs ≤ a.natAbs) :
    Calls Tryz.prog 153 #[.pointer (some ⟨bz, 0, none⟩), .pointer none, .pointer none, .pointer (some ⟨ba, 0, none⟩), .pointer (some ⟨bb, 0, none⟩)] w (IntRes w bz S (Nat.gcd a.natAbs b.natAbs)) := by
  have hla : (dg a.natAbs).length ≤ 1000000 := by rw [dg_len_one (by omega) hal]; simp
  have hlb : (dg b.natAbs).length ≤ 1000000 := by rw [dg_len_one (by omega) hbl]; simp
  go_enter Tryz.func153, Tryz.ntmps153
  go_wp2_with fail
  have ha1 : IntF (w.alloc (.cells #[.bool false, .slice none 0 0] 62)) ba a Sa := ha.to fun k hk => Below.heap_alloc _ _ _ (ha.lt k hk)
  refine (abs_any w.heap.size ba 0 a _ _ _ (intF_new w) ha1 hla).mono ?_
  rintro e w1 ⟨SA, rfl, hA1, hSA, hc1⟩
  have hB1 : Below w.heap.size w w1 := ((Below.refl _ _).alloc (Nat.le_refl _) _).trans (hc1.below (by simp) (by simp))
  go_wp2_with fail
  have hb1 : IntF (w1.alloc (.cells #[.bool false, .slice none 0 0] 62)) bb b Sb := (hb.below hB1 hb.lt).to fun k hk => Below.heap_alloc _ _ _ (Nat.lt_of_lt_of_le (hb.lt k hk) hB1.size)
  refine (abs_any w1.heap.size bb 0 b _ _ _ (intF_new w1) hb1 hlb).mono ?_
  rintro e w2 ⟨SB, rfl, hB2, hSB, hc2⟩
  have hA2 : IntF w2 w.heap.size a.natAbs SA := hA1.to fun k hk => by
    have h := hA1.lt k hk
    rw [hc2.block k (by simp; omega) (by simp; omega)]
    exact Below.heap_alloc _ _ _ h
  have hBw2 : Below w.heap.size w w2 := hB1.trans (((Below.refl _ _).alloc hB1.size _).trans (hc2.below (by simp; have := hB1.size; omega) (by simp; exact hB1.size)))
  have hdis : ∀ k, k ∈ SA → k < w1.heap.size := hA1.lt
  have hge' : ∀ k, k ∈ SB → w1.heap.size ≤ k := fun k hk => by
    rcases hSB k hk with h | h
    · simp at h; omega
    · simp at h; omega
  have hnA : ∀ k, k ∈ SA → w.heap.size ≤ k := fun k hk => by
    rcases hSA k hk with h | h
    · simp at h; omega
    · simp at h; omega
  go_wp2_with fail
  generalize hW3 : (w2.alloc (Obj.cells #[Value.bool false, Value.slice none 0 0] 62)).alloc (Obj.cells #[Value.bool false, Value.slice none 0 0] 62) = W3
  have hA3 : IntF W3 w.heap.size a.natAbs SA := by subst hW3; exact hA2.to fun k hk => by rw [Below.heap_alloc _ _ _ (by simp; have := hA2.lt k hk; omega), Below.heap_alloc _ _ _ (hA2.lt k hk)]
  have hB3 : IntF W3 w1.heap.size b.natAbs SB := by subst hW3; exact hB2.to fun k hk => by rw [Below.heap_alloc _ _ _ (by simp; have := hB2.lt k hk; omega), Below.heap_alloc _ _ _ (hB2.lt k hk)]
  have hBW3 : Below w.heap.size w W3 := by subst hW3; exact (hBw2.alloc hBw2.size _).alloc (by simp; have := hBw2.size; omega) _
  clear hW3 hA2 hB2 hBw2 hA1 hc1 hc2 hSA hSB ha1 hb1
  obtain ⟨aA, capA, csA, rfl, hAs, hAw, hA0, hA1', hA2', hA3'⟩ := hA3.word (by omega) (by simpa using hal)
  obtain ⟨aB, capB, csB, rfl, hBs, hBw, hB0, hB1', hB2', hB3'⟩ := hB3.word (by omega) (by simpa using hbl)
  obtain ⟨x0, x1, x2, x3⟩ := hAs.two
  obtain ⟨y0, y1, y2, y3⟩ := hBs.two
  have xw := (hAw.cell 0).trans hA0
  have xf := hAw.free 0
  obtain ⟨oa, capa, Ta, _, _, _, _, hab⟩ := ha.cells
  obtain ⟨a0, _, _, _⟩ := (hab.below hBW3 hab.lt).two
  have yw := (hBw.cell 0).trans hB0
  simp only [Int.natAbs_natCast] at hA0 hB0 xw yw
  obtain ⟨X, hX⟩ : ∃ X, a.natAbs = X := ⟨_, rfl⟩
  obtain ⟨Y, hY⟩ : ∃ Y, b.natAbs = Y := ⟨_, rfl⟩
  rw [hX] at hal hge hA0 xw x0 hAs hA3
  rw [hY] at hbl hge hB0 yw y0 hBs hB3
  have hX0 : X ≠ 0 := by omega
  have hY0 : Y ≠ 0 := by omega
  have HX0 := Lib.hid hX0
  have HY0 := Lib.hid hY0
  have e0 : decide ((X : Int) < 0) = false := by simp
  have e1 : decide ((Y : Int) < 0) = false := by simp
  rw [e0] at x0
  rw [e1] at y0
  have HcX := Lib.hid (wd_one hX0 (by rw [B_eq]; exact hal) hA1' hA2' hA3' hAw hA0)
  have HcY := Lib.hid (wd_one hY0 (by rw [B_eq]; exact hbl) hB1' hB2' hB3' hBw hB0)
  have hcmp : 0 ≤ cmpI X Y := by
    unfold cmpI
    rw [if_neg (by omega)]
    split <;> omega
  have hcmp' : decide (cmpI X Y < 0) = false := by simp; omega
  have HQ := Lib.hid hX
  have HQ' := Lib.hid hY
  have HA3 := Lib.hid hA3'
  clear hX hY e0 e1 hA3' hB3' _ha0 _hb0
  go_quiet ((go_at_call 41; exact Calls.quiet_of (ncmp_any _ _ X Y _ _ _ (by exact HcX.out) (by exact HcY.out))))
  clear hX0 hY0
  go_wp2
  refine wp_loop_rounds 1 ?_
  rw [rounds_succ]
  go_wp2
  go_quiet (fail)
  go_wp2
  go_loopw [23, 24] (fun s t wr => ∃ (x y q : Nat), s = .int .u64 x ∧ t = .int .u64 y ∧ x < 18446744073709551616 ∧ y < 18446744073709551616 ∧ Hid (Nat.gcd x y = Nat.gcd X Y) ∧ wr = W3.drewN q) (fun _ t _ => (intOf t).toNat)
  case atStart => exact ⟨X, Y, _, rfl, rfl, hal, hbl, rfl, by simp only [World.drewN_drewN]; rfl⟩
  case round =>
    obtain ⟨x, y, q, rfl, rfl, hx64, hy64, hg, rfl⟩ := hrel
    by_cases hy0 : y = 0
    · subst hy0
      have hneA := (hab.below hBW3 hab.lt).ne hAw (by decide)
      have hx : x = Nat.gcd X Y := by have := hg.out; simpa using this
      have hx0 : x ≠ 0 := by rw [hx]; intro e; exact HX0.out (Nat.eq_zero_of_gcd_eq_zero_left e)
      have hnn : w.heap.size ≤ aA := hnA aA (by simp)
      have hBf : Below w.heap.size w ((W3.drewN q).setCell ⟨aA, 0, none⟩ (.int .u64 x)) := Below.setCell (p := ⟨aA, 0, none⟩) (below_drewN' hBW3 q) hnn _
      have hzf := Lib.hid (hz.below hBf hz.lt)
      have hAf := Lib.hid (IntF.of_word (w := (W3.drewN q).setCell ⟨aA, 0, none⟩ (.int .u64 x)) (z := x) (by omega) (by simpa using hx64) (by rw [decide_eq_false (by omega), decide_eq_false (by omega)]) ((Blk.drewN hAs q).set_other (p := ⟨aA, 0, none⟩) (hAs.ne hAw (by decide)) _)
        ((Blk.drewN hAw q).set 0 _) (by have h0 : 0 < csA.size := (by have := HA3.out; omega); rw [Int.natAbs_natCast, Array.getElem?_setIfInBounds_self_of_lt h0]) hA1' hA2' (by have := HA3.out; simpa using this))
      have HX := Lib.hid hx
      clear hx hx0
      go_wp2_with fail
      refine (set_any bz w.heap.size z x S _ _ (by exact hzf.out) (by exact hAf.out) (by rw [Int.natAbs_natCast]; have := @dg_length_le x 1 (by rw [B_eq]; omega); omega)).mono ?_
      rintro e wf ⟨S', rfl, hf, hS', hcf⟩
      go_wp2
      go_ret
      rw [HX.out] at hf
      rw [HQ.out, HQ'.out]
      exact ⟨S', rfl, hf, fun k hk => (hS' k hk).imp id fun h => Nat.le_trans hBf.size h, (Chg.of_below hBf (Nat.le_refl _) S).trans hcf⟩
    · have hyb : ((y : Int) != 0) = true := by simp; omega
      have hyp : (0 : Int) < y := by omega
      go_wp2_with fail
      go_quiet (fail)
      go_wp2
      go_roundw
      case rel => exact ⟨y, x % y, _, rfl, by rw [Int.natCast_emod], hy64, by have := Nat.mod_lt x (show 0 < y by omega); omega, by show Nat.gcd y (x % y) = _; rw [← hg.out, Nat.gcd_comm y, ← Nat.gcd_rec, Nat.gcd_comm], by simp only [World.drewN_drewN]; rfl⟩
      case measure => simp [intOf]; have := Nat.mod_lt x (show 0 < y by omega); omega
end Go.Proofs.YtggoncneinlpgaaGreatDoor
namespace Go.Proofs.YtggoncneinlpgaaGreatDoor
open Go Go.RowKit Nt

set_option maxRecDepth 100000 in
set_option maxHeartbeats 2000000 in
theorem lehmer_lt (bz ba bb : Nat) (z a b : Int) (S Sa Sb : List Nat) (w : World) (hz : IntF w bz z S) (ha : IntF w ba a Sa) (hb : IntF w bb b Sb)
    (_ha0 : a ≠ 0) (_hb0 : b ≠ 0) (hal : a.natAbs < 18446744073709551616) (hbl : b.natAbs < 18446744073709551616) (hge : a.natAbs < b.natAbs) :
    Calls Tryz.prog 153 #[.pointer (some ⟨bz, 0, none⟩), .pointer none, .pointer none, .pointer (some ⟨ba, 0, none⟩), .pointer (some ⟨bb, 0, none⟩)] w (IntRes w bz S (Nat.gcd a.natAbs b.natAbs)) := by
  have hla : (dg a.natAbs).length ≤ 1000000 := by rw [dg_len_one (by omega) hal]; simp
  have hlb : (dg b.natAbs).length ≤ 1000000 := by rw [dg_len_one (by omega) hbl]; simp
  go_enter Tryz.func153, Tryz.ntmps153
  go_wp2_with fail
  have ha1 : IntF (w.alloc (.cells #[.bool false, .slice none 0 0] 62)) ba a Sa := ha.to fun k hk => Below.heap_alloc _ _ _ (ha.lt k hk)
  refine (abs_any w.heap.size ba 0 a _ _ _ (intF_new w) ha1 hla).mono ?_
  rintro e w1 ⟨SA, rfl, hA1, hSA, hc1⟩
  have hB1 : Below w.heap.size w w1 := ((Below.refl _ _).alloc (Nat.le_refl _) _).trans (hc1.below (by simp) (by simp))
  go_wp2_with fail
  have hb1 : IntF (w1.alloc (.cells #[.bool false, .slice none 0 0] 62)) bb b Sb := (hb.below hB1 hb.lt).to fun k hk => Below.heap_alloc _ _ _ (Nat.lt_of_lt_of_le (hb.lt k hk) hB1.size)
  refine (abs_any w1.heap.size bb 0 b _ _ _ (intF_new w1) hb1 hlb).mono ?_
  rintro e w2 ⟨SB, rfl, hB2, hSB, hc2⟩
  have hA2 : IntF w2 w.heap.size a.natAbs SA := hA1.to fun k hk => by
    have h := hA1.lt k hk
    rw [hc2.block k (by simp; omega) (by simp; omega)]
    exact Below.heap_alloc _ _ _ h
  have hBw2 : Below w.heap.size w w2 := hB1.trans (((Below.refl _ _).alloc hB1.size _).trans (hc2.below (by simp; have := hB1.size; omega) (by simp; exact hB1.size)))
  have hdis : ∀ k, k ∈ SA → k < w1.heap.size := hA1.lt
  have hge' : ∀ k, k ∈ SB → w1.heap.size ≤ k := fun k hk => by
    rcases hSB k hk with h | h
    · simp at h; omega
    · simp at h; omega
  have hnA : ∀ k, k ∈ SA → w.heap.size ≤ k := fun k hk => by
    rcases hSA k hk with h | h
    · simp at h; omega
    · simp at h; omega
  go_wp2_with fail
  generalize hW3 : (w2.alloc (Obj.cells #[Value.bool false, Value.slice none 0 0] 62)).alloc (Obj.cells #[Value.bool false, Value.slice none 0 0] 62) = W3
  have hA3 : IntF W3 w.heap.size a.natAbs SA := by subst hW3; exact hA2.to fun k hk => by rw [Below.heap_alloc _ _ _ (by simp; have := hA2.lt k hk; omega), Below.heap_alloc _ _ _ (hA2.lt k hk)]
  have hB3 : IntF W3 w1.heap.size b.natAbs SB := by subst hW3; exact hB2.to fun k hk => by rw [Below.heap_alloc _ _ _ (by simp; have := hB2.lt k hk; omega), Below.heap_alloc _ _ _ (hB2.lt k hk)]
  have hBW3 : Below w.heap.size w W3 := by subst hW3; exact (hBw2.alloc hBw2.size _).alloc (by simp; have := hBw2.size; omega) _
  clear hW3 hA2 hB2 hBw2 hA1 hc1 hc2 hSA hSB ha1 hb1
  obtain ⟨aA, capA, csA, rfl, hAs, hAw, hA0, hA1', hA2', hA3'⟩ := hA3.word (by omega) (by simpa using hal)
  obtain ⟨aB, capB, csB, rfl, hBs, hBw, hB0, hB1', hB2', hB3'⟩ := hB3.word (by omega) (by simpa using hbl)
  obtain ⟨x0, x1, x2, x3⟩ := hAs.two
  obtain ⟨y0, y1, y2, y3⟩ := hBs.two
  have xw := (hAw.cell 0).trans hA0
  have xf := hBw.free 0
  obtain ⟨oa, capa, Ta, _, _, _, _, hab⟩ := ha.cells
  obtain ⟨a0, _, _, _⟩ := (hab.below hBW3 hab.lt).two
  have yw := (hBw.cell 0).trans hB0
  simp only [Int.natAbs_natCast] at hA0 hB0 xw yw
  obtain ⟨X, hX⟩ : ∃ X, a.natAbs = X := ⟨_, rfl⟩
  obtain ⟨Y, hY⟩ : ∃ Y, b.natAbs = Y := ⟨_, rfl⟩
  rw [hX] at hal hge hA0 xw x0 hAs hA3
  rw [hY] at hbl hge hB0 yw y0 hBs hB3
  have hX0 : X ≠ 0 := by omega
  have hY0 : Y ≠ 0 := by omega
  have HX0 := Lib.hid hX0
  have HY0 := Lib.hid hY0
  have e0 : decide ((X : Int) < 0) = false := by simp
  have e1 : decide ((Y : Int) < 0) = false := by simp
  rw [e0] at x0
  rw [e1] at y0
  have HcX := Lib.hid (wd_one hX0 (by rw [B_eq]; exact hal) hA1' hA2' hA3' hAw hA0)
  have HcY := Lib.hid (wd_one hY0 (by rw [B_eq]; exact hbl) hB1' hB2' hB3' hBw hB0)
  have hcmp : cmpI X Y = -1 := by
    unfold cmpI
    rw [if_pos (by omega)]
  have hcmp' : cmpI X Y < 0 := by omega
  have HCM := Lib.hid hcmp
  clear hcmp
  have HQ := Lib.hid hX
  have HQ' := Lib.hid hY
  have HA3 := Lib.hid hB3'
  clear hX hY e0 e1 hA3' hB3' _ha0 _hb0
  go_quiet ((go_at_call 41; exact Calls.quiet_of (ncmp_any _ _ X Y _ _ _ (by exact HcX.out) (by exact HcY.out))))
  clear hX0 hY0
  go_wp2
  refine wp_loop_rounds 1 ?_
  rw [rounds_succ]
  go_wp2
  go_quiet (fail)
  go_wp2
  go_loopw [23, 24] (fun s t wr => ∃ (x y q : Nat), s = .int .u64 x ∧ t = .int .u64 y ∧ x < 18446744073709551616 ∧ y < 18446744073709551616 ∧ Hid (Nat.gcd x y = Nat.gcd X Y) ∧ wr = W3.drewN q) (fun _ t _ => (intOf t).toNat)
  case atStart => exact ⟨Y, X, _, rfl, rfl, hbl, hal, Nat.gcd_comm Y X, by simp only [World.drewN_drewN]; rfl⟩
  case round =>
    obtain ⟨x, y, q, rfl, rfl, hx64, hy64, hg, rfl⟩ := hrel
    by_cases hy0 : y = 0
    · subst hy0
      have hneA := (hab.below hBW3 hab.lt).ne hBw (by decide)
      have hx : x = Nat.gcd X Y := by have := hg.out; simpa using this
      have hx0 : x ≠ 0 := by rw [hx]; intro e; exact HX0.out (Nat.eq_zero_of_gcd_eq_zero_left e)
      have hnn : w.heap.size ≤ aB := Nat.le_trans hB1.size (hge' aB (by simp))
      have hBf : Below w.heap.size w ((W3.drewN q).setCell ⟨aB, 0, none⟩ (.int .u64 x)) := Below.setCell (p := ⟨aB, 0, none⟩) (below_drewN' hBW3 q) hnn _
      have hzf := Lib.hid (hz.below hBf hz.lt)
      have hAf := Lib.hid (IntF.of_word (w := (W3.drewN q).setCell ⟨aB, 0, none⟩ (.int .u64 x)) (z := x) (by omega) (by simpa using hx64) (by rw [decide_eq_false (by omega), decide_eq_false (by omega)]) ((Blk.drewN hBs q).set_other (p := ⟨aB, 0, none⟩) (hBs.ne hBw (by decide)) _)
        ((Blk.drewN hBw q).set 0 _) (by have h0 : 0 < csB.size := (by have := HA3.out; omega); rw [Int.natAbs_natCast, Array.getElem?_setIfInBounds_self_of_lt h0]) hB1' hB2' (by have := HA3.out; simpa using this))
      have HX := Lib.hid hx
      clear hx hx0
      go_wp2_with fail
      refine (set_any bz w1.heap.size z x S _ _ (by exact hzf.out) (by exact hAf.out) (by rw [Int.natAbs_natCast]; have := @dg_length_le x 1 (by rw [B_eq]; omega); omega)).mono ?_
      rintro e wf ⟨S', rfl, hf, hS', hcf⟩
      go_wp2
      go_ret
      rw [HX.out] at hf
      rw [HQ.out, HQ'.out]
      exact ⟨S', rfl, hf, fun k hk => (hS' k hk).imp id fun h => Nat.le_trans hBf.size h, (Chg.of_below hBf (Nat.le_refl _) S).trans hcf⟩
    · have hyb : ((y : Int) != 0) = true := by simp; omega
      have hyp : (0 : Int) < y := by omega
      go_wp2_with fail
      go_quiet (fail)
      go_wp2
      go_roundw
      case rel => exact ⟨y, x % y, _, rfl, by rw [Int.natCast_emod], hy64, by have := Nat.mod_lt x (show 0 < y by omega); omega, by show Nat.gcd y (x % y) = _; rw [← hg.out, Nat.gcd_comm y, ← Nat.gcd_rec, Nat.gcd_comm], by simp only [World.drewN_drewN]; rfl⟩
      case measure => simp [intOf]; have := Nat.mod_lt x (show 0 < y by omega); omega

theorem lehmer_any (bz ba bb : Nat) (z a b : Int) (S Sa Sb : List Nat) (w : World) (hz : IntF w bz z S) (ha : IntF w ba a Sa) (hb : IntF w bb b Sb)
    (ha0 : a ≠ 0) (hb0 : b ≠ 0) (hal : a.natAbs < 18446744073709551616) (hbl : b.natAbs < 18446744073709551616) :
    Calls Tryz.prog 153 #[.pointer (some ⟨bz, 0, none⟩), .pointer none, .pointer none, .pointer (some ⟨ba, 0, none⟩), .pointer (some ⟨bb, 0, none⟩)] w (IntRes w bz S (Nat.gcd a.natAbs b.natAbs)) := by
  rcases Nat.lt_or_ge a.natAbs b.natAbs with h | h
  · exact lehmer_lt bz ba bb z a b S Sa Sb w hz ha hb ha0 hb0 hal hbl h
  · exact lehmer_ge bz ba bb z a b S Sa Sb w hz ha hb ha0 hb0 hal hbl h

set_option maxRecDepth 100000 in
set_option maxHeartbeats 1000000 in
/-- GCD where one of the two is 0: the other one's size. -/
theorem gcd_zero (bz ba bb : Nat) (z a b : Int) (S Sa Sb : List Nat) (w : World) (hz : IntF w bz z S) (ha : IntF w ba a Sa) (hb : IntF w bb b Sb)
    (h0 : a = 0 ∨ b = 0) (hal : a.natAbs < 18446744073709551616) (hbl : b.natAbs < 18446744073709551616) :
    Calls Tryz.prog 120 #[.pointer (some ⟨bz, 0, none⟩), .pointer none, .pointer none, .pointer (some ⟨ba, 0, none⟩), .pointer (some ⟨bb, 0, none⟩)] w (IntRes w bz S (Nat.gcd a.natAbs b.natAbs)) := by
  have hla : (dg a.natAbs).length ≤ 1000000 := by have := @dg_length_le a.natAbs 1 (by rw [B_eq]; omega); omega
  have hlb : (dg b.natAbs).length ≤ 1000000 := by have := @dg_length_le b.natAbs 1 (by rw [B_eq]; omega); omega
  obtain ⟨oa, ca, Ta, a0, a1, _, _, _⟩ := ha.cells
  obtain ⟨ob, cb, Tb, b0, b1, _, _, _⟩ := hb.cells
  have la := @dg_len_zero a
  have lb := @dg_len_zero b
  have HLA := Lib.hid hla
  have HLB := Lib.hid hlb
  clear hla hlb
  have hbS : bz ∈ S := by obtain ⟨v, T, _, _, rfl⟩ := hz; simp
  obtain ⟨l, hl⟩ : ∃ l, (dg a.natAbs).length = l := ⟨_, rfl⟩
  obtain ⟨m, hm⟩ : ∃ m, (dg b.natAbs).length = m := ⟨_, rfl⟩
  rw [hl] at a1 la
  rw [hm] at b1 lb
  clear hl hm
  by_cases ha0 : a = 0
  · subst ha0
    obtain rfl : l = 0 := la.2 rfl
    have e : Nat.gcd (0 : Int).natAbs b.natAbs = b.natAbs := by simp
    rw [e]
    clear la lb h0 e hal hbl
    go_enter Tryz.func120, Tryz.ntmps120
    go_wp2_with fail
    go_quiet (fail)
    go_wp2_with fail
    refine (set_any bz bb z b S Sb _ (by exact hz) (by exact hb) HLB.out).mono ?_
    rintro e w1 ⟨S', rfl, h1, hS, hc⟩
    obtain ⟨o, cap, T', q1, q2, q3, q4, q5⟩ := h1.cells
    have q6 := q5.free 0
    go_wp2
    go_ret
    exact ⟨S', rfl, intF_pos h1, hS, ((Chg.refl _ _).drewN nq).trans (hc.setCell (.inl hbS) _)⟩
  · have hb0 : b = 0 := by omega
    subst hb0
    obtain rfl : m = 0 := lb.2 rfl
    have hl0 : ((l : Int) == 0) = false := by
      have : l ≠ 0 := fun e => ha0 (la.1 e)
      simp; omega
    have e : Nat.gcd a.natAbs (0 : Int).natAbs = a.natAbs := by simp
    rw [e]
    clear la lb h0 e hal hbl ha0
    go_enter Tryz.func120, Tryz.ntmps120
    go_wp2_with fail
    go_quiet (fail)
    go_wp2_with fail
    refine (set_any bz ba z a S Sa _ (by exact hz) (by exact ha) HLA.out).mono ?_
    rintro e w1 ⟨S', rfl, h1, hS, hc⟩
    obtain ⟨o, cap, T', q1, q2, q3, q4, q5⟩ := h1.cells
    have q6 := q5.free 0
    go_wp2
    go_ret
    exact ⟨S', rfl, intF_pos h1, hS, ((Chg.refl _ _).drewN nq).trans (hc.setCell (.inl hbS) _)⟩

set_option maxRecDepth 100000 in
set_option maxHeartbeats 1000000 in
/-- (*Int).GCD at one word, without cofactors. -/
theorem gcd_any (bz ba bb : Nat) (z a b : Int) (S Sa Sb : List Nat) (w : World) (hz : IntF w bz z S) (ha : IntF w ba a Sa) (hb : IntF w bb b Sb)
    (hal : a.natAbs < 18446744073709551616) (hbl : b.natAbs < 18446744073709551616) :
    Calls Tryz.prog 120 #[.pointer (some ⟨bz, 0, none⟩), .pointer none, .pointer none, .pointer (some ⟨ba, 0, none⟩), .pointer (some ⟨bb, 0, none⟩)] w (IntRes w bz S (Nat.gcd a.natAbs b.natAbs)) := by
  by_cases h0 : a = 0 ∨ b = 0
  · exact gcd_zero bz ba bb z a b S Sa Sb w hz ha hb h0 hal hbl
  · have ha0 : a ≠ 0 := fun e => h0 (.inl e)
    have hb0 : b ≠ 0 := fun e => h0 (.inr e)
    have HL := Lib.hid (lehmer_any bz ba bb z a b S Sa Sb w hz ha hb ha0 hb0 hal hbl)
    obtain ⟨oa, ca, Ta, a0, a1, _, _, _⟩ := ha.cells
    obtain ⟨ob, cb, Tb, b0, b1, _, _, _⟩ := hb.cells
    have la : (((dg a.natAbs).length : Int) == 0) = false := by
      have := @dg_len_zero a
      have h1 : (dg a.natAbs).length ≠ 0 := fun e => ha0 (this.1 e)
      exact beq_eq_false_iff_ne.2 (by omega)
    have lb : (((dg b.natAbs).length : Int) == 0) = false := by
      have := @dg_len_zero b
      have h1 : (dg b.natAbs).length ≠ 0 := fun e => hb0 (this.1 e)
      exact beq_eq_false_iff_ne.2 (by omega)
    obtain ⟨l, hl⟩ : ∃ l, (dg a.natAbs).length = l := ⟨_, rfl⟩
    obtain ⟨m, hm⟩ : ∃ m, (dg b.natAbs).length = m := ⟨_, rfl⟩
    rw [hl] at a1 la
    rw [hm] at b1 lb
    clear hl hm h0 ha0 hb0 hal hbl
    go_enter Tryz.func120, Tryz.ntmps120
    go_wp2_with fail
    refine HL.out.mono ?_
    rintro e w1 ⟨S', rfl, h1, hS, hc⟩
    go_wp2
    go_ret
    exact ⟨S', rfl, h1, hS, hc⟩
end Go.Proofs.YtggoncneinlpgaaGreatDoor
