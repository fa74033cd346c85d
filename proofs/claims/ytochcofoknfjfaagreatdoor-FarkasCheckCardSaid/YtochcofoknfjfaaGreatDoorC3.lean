/- Walks of the reference: Tame, MixOf. -/
import Derived.Test.YtochcofoknfjfaaGreatDoorC2
import Derived.Deep.AppendLies
namespace Go.Proofs.YtochcofoknfjfaaGreatDoor
open Go Go.RowKit Nt

def farB (z : Int) : Bool := decide (30 < z) || decide (z < -30)
def wildB (zs : List Int) : Bool := zs.any farB

set_option maxRecDepth 100000 in
set_option maxHeartbeats 1000000 in
theorem rtame_any (v : Value) (zs : List Int) (w : World) (hv : SliceI w v zs) (hl : zs.length ≤ 1000000) :
    Calls Tryz.prog 22 #[v] w fun e w' => e = .returned (.bool (!wildB zs)) ∧ w = w' := by
  obtain ⟨o, cap, rfl, hc⟩ := hv
  obtain ⟨n, hn⟩ : ∃ n, zs.length = n := ⟨_, rfl⟩
  rw [hn] at hl ⊢
  have HN := Lib.hid hn
  have HC := Lib.hid hc
  clear hn hc
  go_enter Tryz.func22, Tryz.ntmps22
  go_wp2
  go_loop [3] (fun i => ∃ k : Nat, k ≤ n ∧ i = .int .i64 k ∧ Hid (wildB (zs.take k) = false)) (fun i => n - (intOf i).toNat)
  case atStart => exact ⟨0, Nat.zero_le _, rfl, rfl⟩
  case round =>
    obtain ⟨k, hk, rfl, hf⟩ := hrel
    by_cases hlt : k < n
    · have hk' : k < zs.length := by have := HN.out; omega
      obtain ⟨b, off, rfl, hbl, hcs⟩ := HC.out (by intro e; rw [e] at hk'; simp at hk')
      have hcell : w.cell? ⟨b, off + k, none⟩ = some (.int .i64 zs[k]) := hcs k hk'
      have HT := Lib.hid (show wildB (zs.take (k + 1)) = farB zs[k] by
        rw [List.take_succ_eq_append_getElem hk', wildB, List.any_append]
        have := hf.out
        unfold wildB at this
        rw [this]
        simp)
      have HY : farB zs[k] = true → Hid (wildB zs = true) := fun h => by
        show wildB zs = true
        unfold wildB
        rw [List.any_eq_true]
        exact ⟨_, List.getElem_mem hk', h⟩
      obtain ⟨z, hz⟩ : ∃ z, zs[k] = z := ⟨_, rfl⟩
      rw [hz] at hcell HT HY
      clear hz hcs
      by_cases hb : farB z = true
      · have HR := HY hb
        clear HT HY
        unfold farB at hb
        by_cases h1 : 30 < z
        · clear hb
          go_wp2
          go_ret
          exact ⟨by rw [HR.out]; rfl, rfl⟩
        · have h2 : z < -30 := by simpa [h1] using hb
          have h1' : decide (30 < z) = false := by simp [h1]
          clear hb h1
          go_wp2
          go_ret
          exact ⟨by rw [HR.out]; rfl, rfl⟩
      · rw [Bool.not_eq_true] at hb
        have HF := Lib.hid (HT.out.trans hb)
        clear HT HY
        have h1 : decide (30 < z) = false := by unfold farB at hb; simp at hb; simp; omega
        have h2 : decide (z < -30) = false := by unfold farB at hb; simp at hb; simp; omega
        clear hb
        go_wp2
        go_round
        case rel => exact ⟨k + 1, by omega, by go_num, HF⟩
        case measure => simp [intOf]; omega
    · obtain rfl : k = n := by omega
      have HF := Lib.hid (show wildB zs = false by have := hf.out; have h := HN.out; rwa [List.take_of_length_le (by omega)] at this)
      go_wp2
      go_ret
      exact ⟨by rw [HF.out]; rfl, rfl⟩


theorem tame_of {zs : List Int} (h : wildB zs = false) : ∀ z ∈ zs, -30 ≤ z ∧ z ≤ 30 := fun z hz => by
  unfold wildB at h
  rw [List.any_eq_false] at h
  have := h z hz
  unfold farB at this
  simp at this
  omega

set_option maxRecDepth 100000 in
set_option maxHeartbeats 2000000 in
theorem rmix_any (v u : Value) (xs ys : List Int) (x y : Int) (w : World) (hv : SliceI w v xs) (hu : SliceI w u ys) (hlen : xs.length = ys.length) (hl : xs.length ≤ 1000000) (hx : ∀ z ∈ xs, -30 ≤ z ∧ z ≤ 30) (hy : ∀ z ∈ ys, -30 ≤ z ∧ z ≤ 30) (h1 : -30 ≤ x ∧ x ≤ 30) (h2 : -30 ≤ y ∧ y ≤ 30) :
    Calls Tryz.prog 30 #[v, .int .i64 x, u, .int .i64 y] w fun e w' => ∃ r, e = .returned r ∧ SliceI w' r (normZ (mixZ xs x ys y)) ∧ Below w.heap.size w w' := by
  obtain ⟨o, cap, rfl, hc⟩ := hv
  obtain ⟨o', cap', rfl, hc'⟩ := hu
  obtain ⟨i0, hi, hzz⟩ := Option.map_eq_some_iff.1 info3
  simp only [Prod.mk.injEq] at hzz
  obtain ⟨hz0, hz1, hz2⟩ := hzz
  have HI := Lib.hid hi
  have HZ0 := Lib.hid hz0
  have HZ1 := Lib.hid hz1
  have HZ2 := Lib.hid hz2
  clear hi hz0 hz1 hz2
  obtain ⟨n, hn⟩ : ∃ n, xs.length = n := ⟨_, rfl⟩
  have HLEN := Lib.hid hlen
  have HML := Lib.hid ((mixZ_length (x := x) (y := y) hlen).trans hn)
  obtain ⟨zs, hzs⟩ : ∃ zs, mixZ xs x ys y = zs := ⟨_, rfl⟩
  have HG : Hid (∀ k (hkx : k < xs.length) (hky : k < ys.length) (hkz : k < zs.length), zs[k] = xs[k] * x + ys[k] * y) := fun k hkx hky hkz => by
    subst hzs
    exact mixZ_get hkx hky
  rw [hzs] at HML ⊢
  rw [← hlen]
  rw [hn] at hl ⊢
  have HN := Lib.hid hn
  have HC := Lib.hid hc
  have HC' := Lib.hid hc'
  have HFIT : Hid (Fit zs) := fun z hz => by
    obtain ⟨i, hi, rfl⟩ := List.getElem_of_mem hz
    rw [HG.out i (by have := HML.out; omega) (by have := HML.out; omega) hi]
    have a1 := hx _ (List.getElem_mem (show i < xs.length by have := HML.out; omega))
    have a2 := hy _ (List.getElem_mem (show i < ys.length by have := HML.out; omega))
    have b1 : (xs[i]'(by have := HML.out; omega) * x).natAbs ≤ 30 * 30 := by rw [Int.natAbs_mul]; exact Nat.mul_le_mul (by omega) (by omega)
    have b2 : (ys[i]'(by have := HML.out; omega) * y).natAbs ≤ 30 * 30 := by rw [Int.natAbs_mul]; exact Nat.mul_le_mul (by omega) (by omega)
    omega
  clear hn hlen hc hc' hzs
  go_enter Tryz.func30, Tryz.ntmps30
  go_wp2_with fail
  go_loopw [9, 10] (fun r i wx => ∃ k : Nat, k ≤ n ∧ i = .int .i64 k ∧ wx.ownsRow w.heap.size 3 1 r k ((zs.take k).map (Value.int .i64)) ∧ Below w.heap.size w wx) (fun _ i _ => n - (intOf i).toNat)
  case atStart => exact ⟨0, Nat.zero_le _, rfl, by simpa using World.ownsRow_nil _ _ _ _, Below.refl _ _⟩
  case round =>
    obtain ⟨k, hk, rfl, hown, hbx⟩ := hrel
    by_cases hlt : k < n
    · have hkx : k < xs.length := by have := HN.out; omega
      have hky : k < ys.length := by have := HN.out; have := HLEN.out; omega
      have hkz : k < zs.length := by have := HML.out; omega
      obtain ⟨b, off, rfl, hbl, hcs⟩ := HC.out (by intro e; rw [e] at hkx; simp at hkx)
      obtain ⟨b', off', rfl, hbl', hcs'⟩ := HC'.out (by intro e; rw [e] at hky; simp at hky)
      have hcell : wr.cell? ⟨b, off + k, none⟩ = some (.int .i64 xs[k]) := (hbx.cell (p := ⟨b, off + k, none⟩) hbl).trans (hcs k hkx)
      have hcell' : wr.cell? ⟨b', off' + k, none⟩ = some (.int .i64 ys[k]) := (hbx.cell (p := ⟨b', off' + k, none⟩) hbl').trans (hcs' k hky)
      have a1 := hx _ (List.getElem_mem hkx)
      have a2 := hy _ (List.getElem_mem hky)
      have HT := Lib.hid (List.take_succ_eq_append_getElem hkz)
      rw [show zs[k] = _ from HG.out k hkx hky hkz] at HT
      obtain ⟨p, hp⟩ : ∃ p, xs[k] = p := ⟨_, rfl⟩
      obtain ⟨q, hq⟩ : ∃ q, ys[k] = q := ⟨_, rfl⟩
      rw [hp] at hcell a1 HT
      rw [hq] at hcell' a2 HT
      have b1 : (p * x).natAbs ≤ 30 * 30 := by rw [Int.natAbs_mul]; exact Nat.mul_le_mul (by omega) (by omega)
      have b2 : (q * y).natAbs ≤ 30 * 30 := by rw [Int.natAbs_mul]; exact Nat.mul_le_mul (by omega) (by omega)
      obtain ⟨s, hs⟩ : ∃ s, p * x = s := ⟨_, rfl⟩
      obtain ⟨t, ht⟩ : ∃ t, q * y = t := ⟨_, rfl⟩
      rw [hs] at b1 HT
      rw [ht] at b2 HT
      have hw1 : IntKind.i64.wrap (p * x) = s := by rw [hs]; exact IntWalk.i64_in _ (by omega)
      have hw2 : IntKind.i64.wrap (q * y) = t := by rw [ht]; exact IntWalk.i64_in _ (by omega)
      have hw3 : IntKind.i64.wrap (s + t) = s + t := IntWalk.i64_in _ (by omega)
      have hl0 : decide ((k : Int) < (n : Int)) = true := by simp; omega
      clear hp hq hs ht hcs hcs' b1 b2 a1 a2
      have hfar : ∀ (o : Obj) (w1 : World) (ov : Value), wr.ownsRow w.heap.size 3 1 ov k ((zs.take k).map (Value.int .i64)) → World.grownBy (wr.alloc o).drew w1 ov.ownBlock → Hid (w1.cell? ⟨b, off + k, none⟩ = some (.int .i64 p) ∧ w1.cell? ⟨b', off' + k, none⟩ = some (.int .i64 q)) := fun o w1 ov ho hg => by
        have hs := hbx.size
        refine ⟨(hg.cell_far ⟨b, off + k, none⟩ (by show b < (wr.alloc o).heap.size; simp; omega) ?_).trans ((World.cell?_alloc_lt _ _ ⟨b, off + k, none⟩ (show b < wr.heap.size by omega)).trans hcell), (hg.cell_far ⟨b', off' + k, none⟩ (by show b' < (wr.alloc o).heap.size; simp; omega) ?_).trans ((World.cell?_alloc_lt _ _ ⟨b', off' + k, none⟩ (show b' < wr.heap.size by omega)).trans hcell')⟩
        · intro e
          have := (ho.lt b e.symm).1
          omega
        · intro e
          have := (ho.lt b' e.symm).1
          omega
      go_upto_region 5 with fail
      go_region_held3 (fun w' => w'.cell? ⟨b, off + k, none⟩ = some (.int .i64 p) ∧ w'.cell? ⟨b', off' + k, none⟩ = some (.int .i64 q)) (go_keep)
        ((refine step_append_lies _ (by rfl) (.tmp 17) (.tmp 31) 22 (by rfl) w.heap.size 3 i0 (.int .i64 0) 1 8 Tryz.underlying22 HI.out HZ0.out HZ1.out HZ2.out rfl (by decide) _ k _ (by rfl) ((hown.alloc _).drew) ⟨wr.heap.size, 0, none⟩ 1 1 [.int .i64 (s + t)] (by rfl) (by rfl) (World.news_of_block (cs := #[.int .i64 (s + t)]) (t := 3) (fr := (0, 0)) (heap_new wr _)) (by intro u hu; simp at hu; subst hu; rfl) (by omega) (by unfold maxLen; omega) (by omega) (by have := hbx.size; simp; omega) (wr.heap.size + 1) (by simp) ?_; intro gg cap1 w1 hown1 hgrow hat hlt1; obtain ⟨r1, r2⟩ := (hfar _ w1 _ hown hgrow).out))
      have hown2 : w1.ownsRow w.heap.size 3 1 (.slice (some ⟨gg, 0, none⟩) (k + 1) cap1) (k + 1) ((zs.take (k + 1)).map (Value.int .i64)) := by
        rw [HT.out, List.map_append]
        simpa using hown1
      have hbw2 : Below w.heap.size w w1 := (hbx.alloc hbx.size _).drew.grown hgrow (by have := hbx.size; show _ ≤ (wr.alloc _).heap.size; simp; omega) (fun k hk => (hown.lt k hk).1)
      clear hown1 hgrow hat hlt1 hfar hown hbx hcell hcell' r1 r2 hw1 hw2 hw3
      go_wp2
      go_roundw
      case rel => exact ⟨k + 1, by omega, by go_num, hown2, hbw2⟩
      case measure => simp [intOf]; omega
    · obtain rfl : k = n := by omega
      have hS : SliceI wr _ zs := ownsRow_sliceI (B0 := w.heap.size) (n := k) (by have := HML.out; rwa [List.take_of_length_le (by omega)] at hown)
      have HNO := Lib.hid (rnormal_any _ zs wr hS HFIT.out (by have := HML.out; omega))
      rw [refN_eq] at HNO
      have HBX := Lib.hid hbx
      clear hown hS hbx
      go_wp2_with fail
      refine HNO.out.mono ?_
      rintro e w5 ⟨v5, rfl, hr5, hb5⟩
      have hbw5 := HBX.out.trans (hb5.mono HBX.out.size)
      go_wp2
      go_ret
      exact ⟨_, rfl, hr5, hbw5⟩
end Go.Proofs.YtochcofoknfjfaaGreatDoor
