/- Walk: exact.Dot of two rows of numbers of half a word. Walk: exact.Mix of two rows of numbers of half a word. -/
import Derived.Test.YtggoncneinlpgaaGreatDoorX23
import Derived.Test.YtggoncneinlpgaaGreatDoorM3
import Derived.Test.YtggoncneinlpgaaGreatDoorM8
import Derived.Deep.RegionHeld3
namespace Go.Proofs.YtggoncneinlpgaaGreatDoor
open Go Go.RowKit Nt

/-- The sum of products. -/
def dotZ : List Int → List Int → Int
  | x :: xs, y :: ys => x * y + dotZ xs ys
  | _, _ => 0

theorem dotZ_take {xs ys : List Int} : ∀ {k : Nat} (hx : k < xs.length) (hy : k < ys.length), dotZ (xs.take (k + 1)) (ys.take (k + 1)) = dotZ (xs.take k) (ys.take k) + xs[k] * ys[k] := by
  induction xs generalizing ys with
  | nil => intro k hx; simp at hx
  | cons x xs ih =>
    intro k hx hy
    cases ys with
    | nil => simp at hy
    | cons y ys =>
      cases k with
      | zero => simp [dotZ]
      | succ k =>
        have := ih (ys := ys) (k := k) (by simpa using hx) (by simpa using hy)
        simp only [List.take_succ_cons, dotZ, List.getElem_cons_succ]
        omega

/-- All are at most 2^31 in size. -/
def Half (zs : List Int) : Prop := ∀ z ∈ zs, z.natAbs ≤ 2147483648

theorem half_prod {x y : Int} (hx : x.natAbs ≤ 2147483648) (hy : y.natAbs ≤ 2147483648) : (x * y).natAbs ≤ 4611686018427387904 := by
  rw [Int.natAbs_mul]
  exact Nat.mul_le_mul hx hy

theorem dotZ_bound {xs ys : List Int} (hx : Half xs) (hy : Half ys) : (dotZ xs ys).natAbs ≤ xs.length * 4611686018427387904 := by
  induction xs generalizing ys with
  | nil => simp [dotZ]
  | cons x xs ih =>
    cases ys with
    | nil => simp [dotZ]
    | cons y ys =>
      have h1 := ih (ys := ys) (fun z hz => hx z (List.mem_cons_of_mem _ hz)) (fun z hz => hy z (List.mem_cons_of_mem _ hz))
      have h2 := half_prod (hx x (List.mem_cons_self ..)) (hy y (List.mem_cons_self ..))
      simp only [dotZ, List.length_cons, Nat.add_mul, Nat.one_mul]
      have := Int.natAbs_add_le (x * y) (dotZ xs ys)
      omega
theorem Half.take {zs : List Int} (h : Half zs) (k : Nat) : Half (zs.take k) := fun z hz => h z (List.mem_of_mem_take hz)

set_option maxRecDepth 100000 in
set_option maxHeartbeats 2000000 in
theorem edot_any (va vb : Value) (xs ys : List Int) (ps qs : List Value) (B0 B1 : Nat) (w : World) (ha : RowP w B0 va xs ps) (hb : RowP w B1 vb ys qs) (hlen : xs.length = ys.length)
    (hne : ∀ i p, i < xs.length → ps[i]? = some p → qs[i]? = some p → False) (hx : Half xs) (hy : Half ys) (hl : xs.length ≤ 1000000) :
    Calls Tryz.prog 19 #[va, vb] w (IntNew w (dotZ xs ys)) := by
  obtain ⟨o, cap, rfl, _, _⟩ := ha.form
  obtain ⟨o', cap', rfl, _, _⟩ := hb.form
  obtain ⟨n, hn⟩ : ∃ n, xs.length = n := ⟨_, rfl⟩
  have HA := Lib.hid ha
  have HB := Lib.hid hb
  have HNE := Lib.hid hne
  have HLEN := Lib.hid hlen
  rw [← hlen]
  rw [hn] at hl ⊢
  have HN := Lib.hid hn
  clear hn ha hb hne hlen
  go_enter Tryz.func19, Tryz.ntmps19
  go_wp2
  go_loopw [10] (fun i wr => ∃ (k : Nat) (S : List Nat), k ≤ n ∧ i = .int .i64 k ∧ IntF wr w.heap.size (dotZ (xs.take k) (ys.take k)) S ∧ (∀ x, x ∈ S → w.heap.size ≤ x) ∧ Below w.heap.size w wr) (fun i _ => n - (intOf i).toNat)
  case atStart => exact ⟨0, _, Nat.zero_le _, rfl, by simpa [dotZ] using intF_new w, by simp, (Below.refl _ _).alloc (Nat.le_refl _) _⟩
  case round =>
    obtain ⟨k, S, hk, rfl, hg, hS, hb⟩ := hrel
    by_cases hlt : k < n
    · have hkx : k < xs.length := by have := HN.out; omega
      have hky : k < ys.length := by have := HN.out; have := HLEN.out; omega
      obtain ⟨a, cap1, ha, _, hal, hcs⟩ := HA.out.cell (by omega)
      obtain ⟨p, hp, hc⟩ := hcs k hkx
      obtain ⟨p', hp', bx, Sx, rfl, hzx, hSx⟩ := HA.out.ints k hkx
      rw [hp] at hp'
      obtain rfl := Option.some.inj hp'
      simp only [Value.slice.injEq] at ha
      obtain ⟨rfl, _, rfl⟩ := ha
      obtain ⟨a', cap1', ha', _, hal', hcs'⟩ := HB.out.cell (by omega)
      obtain ⟨q, hq, hc'⟩ := hcs' k hky
      obtain ⟨q', hq', bY, Sy, rfl, hzy, hSy⟩ := HB.out.ints k hky
      rw [hq] at hq'
      obtain rfl := Option.some.inj hq'
      simp only [Value.slice.injEq] at ha'
      obtain ⟨rfl, _, rfl⟩ := ha'
      have hxy : bx ≠ bY := fun e => by
        subst e
        exact HNE.out k _ hkx hp hq
      have hcell : wr.cell? ⟨a, k, none⟩ = some (.pointer (some ⟨bx, 0, none⟩)) := (hb.cell (p := ⟨a, k, none⟩) (by assumption)).trans hc
      have hcell' : wr.cell? ⟨a', k, none⟩ = some (.pointer (some ⟨bY, 0, none⟩)) := (hb.cell (p := ⟨a', k, none⟩) (by assumption)).trans hc'
      have hzx' : IntF wr bx xs[k] Sx := hzx.below hb hzx.lt
      have hzy' : IntF wr bY ys[k] Sy := hzy.below hb hzy.lt
      have hX := hx _ (List.getElem_mem hkx)
      have hY := hy _ (List.getElem_mem hky)
      have hP := half_prod hX hY
      have hD := dotZ_bound (hx.take k) (hy.take k)
      have hlk : (xs.take k).length ≤ 1000000 := by rw [List.length_take]; omega
      have hD2 : (dotZ (xs.take k) (ys.take k)).natAbs < 18446744073709551616 * 18446744073709551616 := by
        have := Nat.mul_le_mul_right 4611686018427387904 hlk
        omega
      have HT := Lib.hid (dotZ_take (k := k) hkx hky)
      obtain ⟨x, hxk⟩ : ∃ x, xs[k] = x := ⟨_, rfl⟩
      obtain ⟨y, hyk⟩ : ∃ y, ys[k] = y := ⟨_, rfl⟩
      rw [hxk] at hzx' hX hP HT
      rw [hyk] at hzy' hY hP HT
      clear hxk hyk hcs hcs' hzx hzy hSx hSy hp hq hD hlk
      have hg0 : ∀ x, x ∈ S → x < wr.heap.size := hg.lt
      have HM := Lib.hid (mul_any wr.heap.size bx bY 0 x y _ _ _ (wr.drew.alloc (.cells #[.bool false, .slice none 0 0] 62)) (intF_new wr.drew) (hzx'.to fun k hk => Below.heap_alloc wr.drew _ _ (hzx'.lt k hk)) (hzy'.to fun k hk => Below.heap_alloc wr.drew _ _ (hzy'.lt k hk)) hxy (by omega) (by omega))
      have HG1 : ∀ w1, Chg [wr.heap.size] (wr.drew.alloc (.cells #[.bool false, .slice none 0 0] 62)) w1 → Hid (IntF w1 w.heap.size (dotZ (xs.take k) (ys.take k)) S) := fun w1 hc1 => hg.to fun x hx => by
        rw [hc1.block x (by have := hg.lt x hx; show x < (wr.alloc _).heap.size; simp; omega) (by have := hg.lt x hx; simp; omega)]
        exact Below.heap_alloc wr.drew _ _ (hg.lt x hx)
      have HK1 : ∀ w1, Chg [wr.heap.size] (wr.drew.alloc (.cells #[.bool false, .slice none 0 0] 62)) w1 → Hid (w1.cell? ⟨a, k, none⟩ = some (.pointer (some ⟨bx, 0, none⟩)) ∧ w1.cell? ⟨a', k, none⟩ = some (.pointer (some ⟨bY, 0, none⟩))) := fun w1 hc1 => by
        have hb1 : Below w.heap.size w w1 := (hb.drew.alloc hb.size _).trans (hc1.below (by have := hb.size; show _ ≤ (wr.alloc _).heap.size; simp; omega) (by have := hb.size; simp; omega))
        exact ⟨(hb1.cell (p := ⟨a, k, none⟩) hal).trans hc, (hb1.cell (p := ⟨a', k, none⟩) hal').trans hc'⟩
      have HB1 : ∀ w1, Chg [wr.heap.size] (wr.drew.alloc (.cells #[.bool false, .slice none 0 0] 62)) w1 → Hid (Below w.heap.size w w1) := fun w1 hc1 => (hb.drew.alloc hb.size _).trans (hc1.below (by have := hb.size; show _ ≤ (wr.alloc _).heap.size; simp; omega) (by have := hb.size; simp; omega))
      have HPP := Lib.hid (show (x * y).natAbs < 18446744073709551616 by omega)
      have HD2 := Lib.hid hD2
      have HSS := Lib.hid hS
      have HCC := Lib.hid (fun (w2 : World) (hb2 : Below w.heap.size w w2) => (⟨(hb2.cell (p := ⟨a, k, none⟩) hal).trans hc, (hb2.cell (p := ⟨a', k, none⟩) hal').trans hc'⟩ : w2.cell? ⟨a, k, none⟩ = some (.pointer (some ⟨bx, 0, none⟩)) ∧ w2.cell? ⟨a', k, none⟩ = some (.pointer (some ⟨bY, 0, none⟩))))
      clear hg hzx' hzy' hb hD2 hX hY hP hxy hS hc hc'
      go_upto_region 5 with fail
      go_region_held3 (fun w' => w'.cell? ⟨a, k, none⟩ = some (.pointer (some ⟨bx, 0, none⟩)) ∧ w'.cell? ⟨a', k, none⟩ = some (.pointer (some ⟨bY, 0, none⟩))) (go_keep) (first | (go_at_call 28; refine HM.out.mono ?_; rintro e w1 ⟨S1, rfl, hf1, hS1, hc1⟩; obtain ⟨q1, q2⟩ := (HK1 w1 hc1).out) | (go_at_call 27; refine (add_any w.heap.size wr.heap.size _ (x * y) S S1 w1 (HG1 w1 hc1).out hf1 HD2.out HPP.out).mono ?_; rintro e w2 ⟨S2, rfl, hf2, hS2, hc2⟩; have hb2 := (HB1 w1 hc1).out.trans (hc2.below (HB1 w1 hc1).out.size HSS.out); obtain ⟨r1, r2⟩ := HCC.out w2 hb2))
      rw [← HT.out] at hf2
      have hS2' : ∀ x, x ∈ S2 → w.heap.size ≤ x := fun x hx => by
        rcases hS2 x hx with h | h
        · exact HSS.out x h
        · exact Nat.le_trans (HB1 w1 hc1).out.size h
      clear hf1 hS1 hc1 hS2 hc2 HB1 HK1 HG1 HCC
      go_wp2
      go_roundw
      case rel => exact ⟨k + 1, S2, by omega, by go_num, hf2, hS2', hb2⟩
      case measure => simp [intOf]; omega
    · obtain rfl : k = n := by omega
      have hg' : IntF wr w.heap.size (dotZ xs ys) S := by
        have := HN.out
        have := HLEN.out
        rwa [List.take_of_length_le (by omega), List.take_of_length_le (by omega)] at hg
      clear hg
      go_wp2
      go_ret
      exact ⟨_, S, rfl, hg', hS, hb⟩
end Go.Proofs.YtggoncneinlpgaaGreatDoor
namespace Go.Proofs.YtggoncneinlpgaaGreatDoor
open Go Go.RowKit Nt

/-- x times a and y times b. -/
def mixZ (xs : List Int) (x : Int) (ys : List Int) (y : Int) : List Int := List.zipWith (fun a b => a * x + b * y) xs ys

theorem mixZ_get {xs ys : List Int} {x y : Int} {k : Nat} (hx : k < xs.length) (hy : k < ys.length) : (mixZ xs x ys y)[k]'(by simp [mixZ]; omega) = xs[k] * x + ys[k] * y := by simp [mixZ]
theorem mixZ_length {xs ys : List Int} {x y : Int} (h : xs.length = ys.length) : (mixZ xs x ys y).length = xs.length := by simp [mixZ]; omega
theorem mixZ_one {xs ys : List Int} {x y : Int} (hx : Half xs) (hy : Half ys) (h1 : x.natAbs ≤ 2147483648) (h2 : y.natAbs ≤ 2147483648) (hl : xs.length = ys.length) : One (mixZ xs x ys y) := fun z hz => by
  obtain ⟨i, hi, rfl⟩ := List.getElem_of_mem hz
  rw [mixZ_length hl] at hi
  rw [mixZ_get hi (by omega)]
  have a1 := half_prod (hx _ (List.getElem_mem hi)) h1
  have a2 := half_prod (hy _ (List.getElem_mem (show i < ys.length by omega))) h2
  have := Int.natAbs_add_le (xs[i] * x) (ys[i] * y)
  omega

set_option maxRecDepth 100000 in
set_option maxHeartbeats 2000000 in
theorem mix_any (va vb : Value) (xs ys : List Int) (ps qs : List Value) (B0 B1 bX bY : Nat) (x y : Int) (Sx Sy : List Nat) (w : World) (ha : RowP w B0 va xs ps) (hb : RowP w B1 vb ys qs) (hX : IntF w bX x Sx) (hY : IntF w bY y Sy) (hlen : xs.length = ys.length)
    (hne : ∀ i p, i < xs.length → ps[i]? = some p → p ≠ .pointer (some ⟨bX, 0, none⟩)) (hne' : ∀ i p, i < ys.length → qs[i]? = some p → p ≠ .pointer (some ⟨bY, 0, none⟩))
    (hx : Half xs) (hy : Half ys) (h1 : x.natAbs ≤ 2147483648) (h2 : y.natAbs ≤ 2147483648) (hl : xs.length ≤ 1000000) :
    Calls Tryz.prog 80 #[va, .pointer (some ⟨bX, 0, none⟩), vb, .pointer (some ⟨bY, 0, none⟩)] w (RowRes w w.heap.size (normZ (mixZ xs x ys y))) := by
  obtain ⟨i0, hi, hzz⟩ := Option.map_eq_some_iff.1 infoP
  simp only [Prod.mk.injEq] at hzz
  obtain ⟨hz0, hz1, hz2⟩ := hzz
  have HI := Lib.hid hi
  have HZ0 := Lib.hid hz0
  have HZ1 := Lib.hid hz1
  have HZ2 := Lib.hid hz2
  clear hi hz0 hz1 hz2
  obtain ⟨o, cap, rfl, _, _⟩ := ha.form
  obtain ⟨o', cap', rfl, _, _⟩ := hb.form
  obtain ⟨n, hn⟩ : ∃ n, xs.length = n := ⟨_, rfl⟩
  have HA := Lib.hid ha
  have HB := Lib.hid hb
  have HX := Lib.hid hX
  have HY := Lib.hid hY
  have HNE := Lib.hid hne
  have HNE' := Lib.hid hne'
  have HLEN := Lib.hid hlen
  have HONE := Lib.hid (mixZ_one hx hy h1 h2 hlen)
  have HML := Lib.hid ((mixZ_length (x := x) (y := y) hlen).trans hn)
  obtain ⟨zs, hzs⟩ : ∃ zs, mixZ xs x ys y = zs := ⟨_, rfl⟩
  have HG : Hid (∀ k (hkx : k < xs.length) (hky : k < ys.length) (hkz : k < zs.length), zs[k] = xs[k] * x + ys[k] * y) := fun k hkx hky hkz => by
    subst hzs
    exact mixZ_get hkx hky
  rw [hzs] at HONE HML ⊢
  rw [← hlen]
  rw [hn] at hl ⊢
  have HN := Lib.hid hn
  clear hn ha hb hX hY hne hne' hlen hzs
  go_enter Tryz.func80, Tryz.ntmps80
  go_wp2
  go_loopw [9, 14] (fun r i wr => ∃ (k : Nat) (rs : List Value), k ≤ n ∧ i = .int .i64 k ∧ RowP wr w.heap.size r (zs.take k) rs ∧ Below w.heap.size w wr) (fun _ i _ => n - (intOf i).toNat)
  case atStart => exact ⟨0, [], Nat.zero_le _, rfl, by simpa using RowP.nil w _, Below.refl _ _⟩
  case round =>
    obtain ⟨k, rs, hk, rfl, hrow, hbx⟩ := hrel
    by_cases hlt : k < n
    · have hkx : k < xs.length := by have := HN.out; omega
      have hky : k < ys.length := by have := HN.out; have := HLEN.out; omega
      have hkz : k < zs.length := by have := HML.out; omega
      obtain ⟨a, cap1, ha, _, hal, hcs⟩ := HA.out.cell (by omega)
      obtain ⟨p, hp, hc⟩ := hcs k hkx
      obtain ⟨p', hp', bx, Sx', rfl, hzx, hSx⟩ := HA.out.ints k hkx
      rw [hp] at hp'
      obtain rfl := Option.some.inj hp'
      simp only [Value.slice.injEq] at ha
      obtain ⟨rfl, _, rfl⟩ := ha
      obtain ⟨a', cap1', ha', _, hal', hcs'⟩ := HB.out.cell (by omega)
      obtain ⟨q, hq, hc'⟩ := hcs' k hky
      obtain ⟨q', hq', by', Sy', rfl, hzy, hSy⟩ := HB.out.ints k hky
      rw [hq] at hq'
      obtain rfl := Option.some.inj hq'
      simp only [Value.slice.injEq] at ha'
      obtain ⟨rfl, _, rfl⟩ := ha'
      have hnx : bx ≠ bX := fun e => HNE.out k _ hkx hp (by rw [e])
      have hny : by' ≠ bY := fun e => HNE'.out k _ hky hq (by rw [e])
      have hX' := hx _ (List.getElem_mem hkx)
      have hY' := hy _ (List.getElem_mem hky)
      have hP := half_prod hX' h1
      have hQ := half_prod hY' h2
      have HT := Lib.hid (List.take_succ_eq_append_getElem hkz)
      rw [show zs[k] = _ from HG.out k hkx hky hkz] at HT
      have hlenz : (zs.take k).length = k := by rw [List.length_take]; omega
      have HLZ := Lib.hid hlenz
      obtain ⟨xk, hxk⟩ : ∃ x, xs[k] = x := ⟨_, rfl⟩
      obtain ⟨yk, hyk⟩ : ∃ y, ys[k] = y := ⟨_, rfl⟩
      rw [hxk] at hzx hX' hP HT
      rw [hyk] at hzy hY' hQ HT
      have hcell : wr.cell? ⟨a, k, none⟩ = some (.pointer (some ⟨bx, 0, none⟩)) := (hbx.cell (p := ⟨a, k, none⟩) (by assumption)).trans hc
      have hal0 : a < wr.heap.size := Nat.lt_of_lt_of_le hal hbx.size
      have HC' := Lib.hid hc'
      have hb0 : Below wr.heap.size wr (wr.alloc (.cells #[.bool false, .slice none 0 0] 62)) := (Below.refl _ _).alloc (Nat.le_refl _) _
      have hbw0 := hbx.trans (hb0.mono hbx.size)
      have HM := Lib.hid (mul_any wr.heap.size bx bX 0 xk x _ _ _ _ (intF_new wr) (hzx.below hbw0 hzx.lt) (HX.out.below hbw0 HX.out.lt) hnx (by omega) (by omega))
      have HZY := Lib.hid hzy
      have HQ := Lib.hid hQ
      have HP := Lib.hid hP
      have HYY := Lib.hid (show yk.natAbs < 18446744073709551616 by omega)
      clear hxk hyk hcs hcs' hzx hzy hSx hSy hp hq hlenz hc hc' hP hQ hX' hY'
      go_wp2_with fail
      refine HM.out.mono ?_
      rintro e w1 ⟨S1, rfl, hf1, hS1, hc1⟩
      have hb1 : Below wr.heap.size wr w1 := hb0.trans (hc1.below (by simp) (by simp))
      have hbw1 := hbx.trans (hb1.mono hbx.size)
      have hcell' : w1.cell? ⟨a', k, none⟩ = some (.pointer (some ⟨by', 0, none⟩)) := (hbw1.cell (p := ⟨a', k, none⟩) hal').trans HC'.out
      have hal1 : a' < w1.heap.size := Nat.lt_of_lt_of_le hal' hbw1.size
      have hb2 : Below w1.heap.size w1 (w1.alloc (.cells #[.bool false, .slice none 0 0] 62)) := (Below.refl _ _).alloc (Nat.le_refl _) _
      have hbw2 := hbw1.trans (hb2.mono hbw1.size)
      have HM2 := Lib.hid (mul_any w1.heap.size by' bY 0 yk y _ _ _ _ (intF_new w1) (HZY.out.below hbw2 HZY.out.lt) (HY.out.below hbw2 HY.out.lt) hny HYY.out (by omega))
      have HS1 : ∀ x, x ∈ S1 → wr.heap.size ≤ x := fun x hx => by
        rcases hS1 x hx with h | h
        · simp at h; omega
        · simp at h; omega
      have HB1 := Lib.hid hb1
      have HF1 := Lib.hid hf1
      have HHS1 := Lib.hid HS1
      clear hcell hb0 hbw0 hf1 hS1 hc1 hb1 hb2 hbw2 HM HZY HS1 hbw1
      go_wp2_with fail
      refine HM2.out.mono ?_
      rintro e w2 ⟨S2, rfl, hf2, hS2, hc2⟩
      have hb3 : Below w1.heap.size w1 w2 := ((Below.refl _ _).alloc (Nat.le_refl _) (.cells #[.bool false, .slice none 0 0] 62)).trans (hc2.below (by simp) (by simp))
      have hb13 : Below wr.heap.size wr w2 := HB1.out.trans (hb3.mono HB1.out.size)
      have hf1' : IntF w2 wr.heap.size (xk * x) S1 := HF1.out.below hb3 HF1.out.lt
      have HADD := Lib.hid (add_any wr.heap.size w1.heap.size (xk * x) (yk * y) S1 S2 w2 hf1' hf2 (by have := HP.out; omega) (by have := HQ.out; omega))
      have HB13 := Lib.hid hb13
      clear hf2 hS2 hc2 hb3 hb13 hf1' HM2 hcell'
      go_wp2_with fail
      refine HADD.out.mono ?_
      rintro e w3 ⟨S3, rfl, hf3, hS3, hc3⟩
      have hb3 : Below wr.heap.size wr w3 := HB13.out.trans (hc3.below HB13.out.size HHS1.out)
      have hrow3 := hrow.below hb3 (Nat.le_refl _)
      have hown3 := hrow3.own
      rw [HLZ.out] at hown3
      have hpp : IntAt w3 (fun k => w.heap.size ≤ k) (.pointer (some ⟨wr.heap.size, 0, none⟩)) (xk * x + yk * y) := ⟨_, S3, rfl, hf3, fun z hz => by
        rcases hS3 z hz with h | h
        · exact Nat.le_trans hbx.size (HHS1.out z h)
        · exact Nat.le_trans hbx.size (Nat.le_trans HB13.out.size h)⟩
      have hbw3 := hbx.trans (hb3.mono hbx.size)
      clear hf3 hS3 hc3 hb3 hrow hbx HADD HF1 HB1
      go_wp2_with (at_builtin; refine wpList_append_own _ rfl (.tmp 24) (.tmp 35) 47 rfl w.heap.size 49 i0 (.pointer none) 1 8 Tryz.underlying47 HI.out HZ0.out HZ1.out HZ2.out rfl (by decide) _ k rs rfl (hown3.alloc _) ⟨w3.heap.size, 0, none⟩ 1 1 [.pointer (some ⟨wr.heap.size, 0, none⟩)] rfl rfl ?c1 ?c2 ?c3 ?c4 ?c5 ?_)
      case c1 =>
        intro j u hj
        match j, hj with
        | 0, hj => simp at hj; subst hj; simp [Addr.add]
      case c2 => intro u hu; simp at hu; subst hu; rfl
      case c3 => unfold maxLen; omega
      case c4 => omega
      case c5 => have := hbw3.size; simp; omega
      · intro v' w4 hown' hgrow _
        have hpush := hrow3.push hpp (by rw [HLZ.out]; exact hown') hgrow
        rw [← HT.out] at hpush
        have hbw4 : Below w.heap.size w w4 := (hbw3.alloc hbw3.size _).grown hgrow (by have := hbw3.size; simp; omega) (fun k hk => (hown3.lt k hk).1)
        clear hown' hgrow hown3 hrow3 hpp hbw3
        go_wp2
        go_roundw
        case rel => exact ⟨k + 1, _, by omega, by go_num, hpush, hbw4⟩
        case measure => simp [intOf]; omega
    · obtain rfl : k = n := by omega
      have hrow' : RowAt wr w.heap.size _ zs := ⟨rs, by have := HML.out; rwa [List.take_of_length_le (by omega)] at hrow⟩
      have HNO := Lib.hid (normal_any _ zs w.heap.size wr hrow' hbx.size HONE.out (by have := HML.out; omega))
      have HBX := Lib.hid hbx
      clear hrow hrow' hbx
      go_wp2_with fail
      refine HNO.out.mono ?_
      rintro e w5 ⟨v5, rfl, hr5, hb5⟩
      have hbw5 := HBX.out.trans (hb5.mono HBX.out.size)
      go_wp2
      go_ret
      exact ⟨_, rfl, hr5, hbw5⟩
end Go.Proofs.YtggoncneinlpgaaGreatDoor
