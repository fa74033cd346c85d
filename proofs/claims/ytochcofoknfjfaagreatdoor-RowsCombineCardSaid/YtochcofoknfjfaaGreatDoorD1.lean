/- Walk: exact.Dot of two rows of numbers of half a word. -/
import Derived.Test.YtochcofoknfjfaaGreatDoorX3
import Derived.Test.YtochcofoknfjfaaGreatDoorM3
import Derived.Test.YtochcofoknfjfaaGreatDoorM8
import Derived.Deep.RegionHeld3
namespace Go.Proofs.YtochcofoknfjfaaGreatDoor
open Go Go.RowKit Nt

/-- The sum of products. -/
def dotZ : List Int → List Int → Int
  | x :: xs, y :: ys => x * y + dotZ xs ys
  | _, _ => 0

theorem dotZ_take {xs ys : List Int} : ∀ {k : Nat} (hx : k < xs.length) (hy : k < ys.length), dotZ (xs.take (k + 1)) (ys.take (k + 1)) = dotZ (xs.take k) (ys.take k) + xs[k] * ys[k] := by
  induction xs generalizing ys with
  | nil => intro k hx; simp at hx
  | cons x xs ih =>
    intro k hx hy
    cases ys with
    | nil => simp at hy
    | cons y ys =>
      cases k with
      | zero => simp [dotZ]
      | succ k =>
        have := ih (ys := ys) (k := k) (by simpa using hx) (by simpa using hy)
        simp only [List.take_succ_cons, dotZ, List.getElem_cons_succ]
        omega

/-- All are at most 2^31 in size. -/
def Half (zs : List Int) : Prop := ∀ z ∈ zs, z.natAbs ≤ 2147483648

theorem half_prod {x y : Int} (hx : x.natAbs ≤ 2147483648) (hy : y.natAbs ≤ 2147483648) : (x * y).natAbs ≤ 4611686018427387904 := by
  rw [Int.natAbs_mul]
  exact Nat.mul_le_mul hx hy

theorem dotZ_bound {xs ys : List Int} (hx : Half xs) (hy : Half ys) : (dotZ xs ys).natAbs ≤ xs.length * 4611686018427387904 := by
  induction xs generalizing ys with
  | nil => simp [dotZ]
  | cons x xs ih =>
    cases ys with
    | nil => simp [dotZ]
    | cons y ys =>
      have h1 := ih (ys := ys) (fun z hz => hx z (List.mem_cons_of_mem _ hz)) (fun z hz => hy z (List.mem_cons_of_mem _ hz))
      have h2 := half_prod (hx x (List.mem_cons_self ..)) (hy y (List.mem_cons_self ..))
      simp only [dotZ, List.length_cons, Nat.add_mul, Nat.one_mul]
      have := Int.natAbs_add_le (x * y) (dotZ xs ys)
      omega
theorem Half.take {zs : List Int} (h : Half zs) (k : Nat) : Half (zs.take k) := fun z hz => h z (List.mem_of_mem_take hz)

set_option maxRecDepth 100000 in
set_option maxHeartbeats 2000000 in
theorem edot_any (va vb : Value) (xs ys : List Int) (ps qs : List Value) (B0 B1 : Nat) (w : World) (ha : RowP w B0 va xs ps) (hb : RowP w B1 vb ys qs) (hlen : xs.length = ys.length)
    (hne : ∀ i p, i < xs.length → ps[i]? = some p → qs[i]? = some p → False) (hx : Half xs) (hy : Half ys) (hl : xs.length ≤ 1000000) :
    Calls Tryz.prog 54 #[va, vb] w (IntNew w (dotZ xs ys)) := by
  obtain ⟨o, cap, rfl, _, _⟩ := ha.form
  obtain ⟨o', cap', rfl, _, _⟩ := hb.form
  obtain ⟨n, hn⟩ : ∃ n, xs.length = n := ⟨_, rfl⟩
  have HA := Lib.hid ha
  have HB := Lib.hid hb
  have HNE := Lib.hid hne
  have HLEN := Lib.hid hlen
  rw [← hlen]
  rw [hn] at hl ⊢
  have HN := Lib.hid hn
  clear hn ha hb hne hlen
  go_enter Tryz.func54, Tryz.ntmps54
  go_wp2
  go_loopw [10] (fun i wr => ∃ (k : Nat) (S : List Nat), k ≤ n ∧ i = .int .i64 k ∧ IntF wr w.heap.size (dotZ (xs.take k) (ys.take k)) S ∧ (∀ x, x ∈ S → w.heap.size ≤ x) ∧ Below w.heap.size w wr) (fun i _ => n - (intOf i).toNat)
  case atStart => exact ⟨0, _, Nat.zero_le _, rfl, by simpa [dotZ] using intF_new w, by simp, (Below.refl _ _).alloc (Nat.le_refl _) _⟩
  case round =>
    obtain ⟨k, S, hk, rfl, hg, hS, hb⟩ := hrel
    by_cases hlt : k < n
    · have hkx : k < xs.length := by have := HN.out; omega
      have hky : k < ys.length := by have := HN.out; have := HLEN.out; omega
      obtain ⟨a, cap1, ha, _, hal, hcs⟩ := HA.out.cell (by omega)
      obtain ⟨p, hp, hc⟩ := hcs k hkx
      obtain ⟨p', hp', bx, Sx, rfl, hzx, hSx⟩ := HA.out.ints k hkx
      rw [hp] at hp'
      obtain rfl := Option.some.inj hp'
      simp only [Value.slice.injEq] at ha
      obtain ⟨rfl, _, rfl⟩ := ha
      obtain ⟨a', cap1', ha', _, hal', hcs'⟩ := HB.out.cell (by omega)
      obtain ⟨q, hq, hc'⟩ := hcs' k hky
      obtain ⟨q', hq', bY, Sy, rfl, hzy, hSy⟩ := HB.out.ints k hky
      rw [hq] at hq'
      obtain rfl := Option.some.inj hq'
      simp only [Value.slice.injEq] at ha'
      obtain ⟨rfl, _, rfl⟩ := ha'
      have hxy : bx ≠ bY := fun e => by
        subst e
        exact HNE.out k _ hkx hp hq
      have hcell : wr.cell? ⟨a, k, none⟩ = some (.pointer (some ⟨bx, 0, none⟩)) := (hb.cell (p := ⟨a, k, none⟩) (by assumption)).trans hc
      have hcell' : wr.cell? ⟨a', k, none⟩ = some (.pointer (some ⟨bY, 0, none⟩)) := (hb.cell (p := ⟨a', k, none⟩) (by assumption)).trans hc'
      have hzx' : IntF wr bx xs[k] Sx := hzx.below hb hzx.lt
      have hzy' : IntF wr bY ys[k] Sy := hzy.below hb hzy.lt
      have hX := hx _ (List.getElem_mem hkx)
      have hY := hy _ (List.getElem_mem hky)
      have hP := half_prod hX hY
      have hD := dotZ_bound (hx.take k) (hy.take k)
      have hlk : (xs.take k).length ≤ 1000000 := by rw [List.length_take]; omega
      have hD2 : (dotZ (xs.take k) (ys.take k)).natAbs < 18446744073709551616 * 18446744073709551616 := by
        have := Nat.mul_le_mul_right 4611686018427387904 hlk
        omega
      have HT := Lib.hid (dotZ_take (k := k) hkx hky)
      obtain ⟨x, hxk⟩ : ∃ x, xs[k] = x := ⟨_, rfl⟩
      obtain ⟨y, hyk⟩ : ∃ y, ys[k] = y := ⟨_, rfl⟩
      rw [hxk] at hzx' hX hP HT
      rw [hyk] at hzy' hY hP HT
      clear hxk hyk hcs hcs' hzx hzy hSx hSy hp hq hD hlk
      have hg0 : ∀ x, x ∈ S → x < wr.heap.size := hg.lt
      have HM := Lib.hid (mul_any wr.heap.size bx bY 0 x y _ _ _ (wr.drew.alloc (.cells #[.bool false, .slice none 0 0] 66)) (intF_new wr.drew) (hzx'.to fun k hk => Below.heap_alloc wr.drew _ _ (hzx'.lt k hk)) (hzy'.to fun k hk => Below.heap_alloc wr.drew _ _ (hzy'.lt k hk)) hxy (by omega) (by omega))
      have HG1 : ∀ w1, Chg [wr.heap.size] (wr.drew.alloc (.cells #[.bool false, .slice none 0 0] 66)) w1 → Hid (IntF w1 w.heap.size (dotZ (xs.take k) (ys.take k)) S) := fun w1 hc1 => hg.to fun x hx => by
        rw [hc1.block x (by have := hg.lt x hx; show x < (wr.alloc _).heap.size; simp; omega) (by have := hg.lt x hx; simp; omega)]
        exact Below.heap_alloc wr.drew _ _ (hg.lt x hx)
      have HK1 : ∀ w1, Chg [wr.heap.size] (wr.drew.alloc (.cells #[.bool false, .slice none 0 0] 66)) w1 → Hid (w1.cell? ⟨a, k, none⟩ = some (.pointer (some ⟨bx, 0, none⟩)) ∧ w1.cell? ⟨a', k, none⟩ = some (.pointer (some ⟨bY, 0, none⟩))) := fun w1 hc1 => by
        have hb1 : Below w.heap.size w w1 := (hb.drew.alloc hb.size _).trans (hc1.below (by have := hb.size; show _ ≤ (wr.alloc _).heap.size; simp; omega) (by have := hb.size; simp; omega))
        exact ⟨(hb1.cell (p := ⟨a, k, none⟩) hal).trans hc, (hb1.cell (p := ⟨a', k, none⟩) hal').trans hc'⟩
      have HB1 : ∀ w1, Chg [wr.heap.size] (wr.drew.alloc (.cells #[.bool false, .slice none 0 0] 66)) w1 → Hid (Below w.heap.size w w1) := fun w1 hc1 => (hb.drew.alloc hb.size _).trans (hc1.below (by have := hb.size; show _ ≤ (wr.alloc _).heap.size; simp; omega) (by have := hb.size; simp; omega))
      have HPP := Lib.hid (show (x * y).natAbs < 18446744073709551616 by omega)
      have HD2 := Lib.hid hD2
      have HSS := Lib.hid hS
      have HCC := Lib.hid (fun (w2 : World) (hb2 : Below w.heap.size w w2) => (⟨(hb2.cell (p := ⟨a, k, none⟩) hal).trans hc, (hb2.cell (p := ⟨a', k, none⟩) hal').trans hc'⟩ : w2.cell? ⟨a, k, none⟩ = some (.pointer (some ⟨bx, 0, none⟩)) ∧ w2.cell? ⟨a', k, none⟩ = some (.pointer (some ⟨bY, 0, none⟩))))
      clear hg hzx' hzy' hb hD2 hX hY hP hxy hS hc hc'
      go_upto_region 5 with fail
      go_region_held3 (fun w' => w'.cell? ⟨a, k, none⟩ = some (.pointer (some ⟨bx, 0, none⟩)) ∧ w'.cell? ⟨a', k, none⟩ = some (.pointer (some ⟨bY, 0, none⟩))) (go_keep) (first | (go_at_call 45; refine HM.out.mono ?_; rintro e w1 ⟨S1, rfl, hf1, hS1, hc1⟩; obtain ⟨q1, q2⟩ := (HK1 w1 hc1).out) | (go_at_call 44; refine (add_any w.heap.size wr.heap.size _ (x * y) S S1 w1 (HG1 w1 hc1).out hf1 HD2.out HPP.out).mono ?_; rintro e w2 ⟨S2, rfl, hf2, hS2, hc2⟩; have hb2 := (HB1 w1 hc1).out.trans (hc2.below (HB1 w1 hc1).out.size HSS.out); obtain ⟨r1, r2⟩ := HCC.out w2 hb2))
      rw [← HT.out] at hf2
      have hS2' : ∀ x, x ∈ S2 → w.heap.size ≤ x := fun x hx => by
        rcases hS2 x hx with h | h
        · exact HSS.out x h
        · exact Nat.le_trans (HB1 w1 hc1).out.size h
      clear hf1 hS1 hc1 hS2 hc2 HB1 HK1 HG1 HCC
      go_wp2
      go_roundw
      case rel => exact ⟨k + 1, S2, by omega, by go_num, hf2, hS2', hb2⟩
      case measure => simp [intOf]; omega
    · obtain rfl : k = n := by omega
      have hg' : IntF wr w.heap.size (dotZ xs ys) S := by
        have := HN.out
        have := HLEN.out
        rwa [List.take_of_length_le (by omega), List.take_of_length_le (by omega)] at hg
      clear hg
      go_wp2
      go_ret
      exact ⟨_, S, rfl, hg', hS, hb⟩
end Go.Proofs.YtochcofoknfjfaaGreatDoor
