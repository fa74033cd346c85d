/- Walk of the reference's NormalOf. -/
import Derived.Test.YtochcofoknfjfaaGreatDoorR1
import Derived.Test.YtochcofoknfjfaaGreatDoorX3
namespace Go.Proofs.YtochcofoknfjfaaGreatDoor
open Go Go.RowKit Nt

theorem ownsRow_sliceI {w : World} {B0 : Nat} {v : Value} {n : Nat} {zs : List Int} (h : w.ownsRow B0 3 1 v n (zs.map (Value.int .i64))) : SliceI w v zs := by
  obtain ⟨hl, h⟩ := h
  have hl' : zs.length = n := by simpa using hl
  subst hl'
  rcases h with ⟨rfl, hn⟩ | ⟨g, cap, cur, rfl, hB, hb, h1, h2, h3, h4⟩
  · refine ⟨none, 0, by rw [hn], fun hne => ?_⟩
    exact absurd (List.eq_nil_of_length_eq_zero hn) hne
  · refine ⟨_, cap, rfl, fun _ => ⟨g, 0, rfl, (show Blk w g cur _ from hb).lt, fun i hi => ?_⟩⟩
    rw [Nat.zero_add, (show Blk w g cur _ from hb).cell]
    have : (zs.map (Value.int .i64))[i]? = cur[i]? := by
      rw [← h4, List.getElem?_take_of_lt (by omega)]
      simp
    rw [← this]
    simp [hi]

theorem gcdZ_zero {zs : List Int} (h : gcdZ zs = 0) : ∀ z ∈ zs, z = 0 := by
  suffices H : ∀ (zs : List Int) (g : Nat), zs.foldl (fun g z => Nat.gcd g z.natAbs) g = 0 → g = 0 ∧ ∀ z ∈ zs, z = 0 from (H zs 0 h).2
  intro zs
  induction zs with
  | nil => intro g hg; exact ⟨hg, by simp⟩
  | cons z zs ih =>
    intro g hg
    obtain ⟨h1, h2⟩ := ih _ hg
    have h3 := Nat.eq_zero_of_gcd_eq_zero_left h1
    have h4 := Nat.eq_zero_of_gcd_eq_zero_right h1
    refine ⟨h3, fun x hx => ?_⟩
    rcases List.mem_cons.1 hx with rfl | hx
    · omega
    · exact h2 x hx

def refD (g : Nat) (z : Int) : Int := if 0 < g then z.tdiv g else 0
def refN (zs : List Int) : List Int := zs.map (refD (gcdZ zs))
theorem refN_eq (zs : List Int) : refN zs = normZ zs := by
  unfold refN normZ
  split
  · rename_i h
    rw [h]
    conv => rhs; rw [← List.map_id zs]
    refine List.map_congr_left fun z hz => ?_
    rw [gcdZ_zero h z hz]
    rfl
  · refine List.map_congr_left fun z _ => ?_
    rw [refD, if_pos (by omega)]

/-- All are small. -/
def Mid (zs : List Int) : Prop := ∀ z ∈ zs, z.natAbs ≤ 4611686018427387904
theorem foldl_gcd_le {zs : List Int} (h : Fit zs) : ∀ g, g ≤ 4611686018427387904 → zs.foldl (fun g z => Nat.gcd g z.natAbs) g ≤ 4611686018427387904 := by
  induction zs with
  | nil => intro g hg; exact hg
  | cons z zs ih =>
    intro g hg
    refine ih (fun x hx => h x (List.mem_cons_of_mem _ hx)) _ ?_
    exact Nat.le_of_lt_succ (gcd_lt (M := 4611686018427387905) (Nat.lt_succ_of_le hg) (Nat.lt_succ_of_le (h z (List.mem_cons_self ..))))
theorem gcdZ_le {zs : List Int} (h : Fit zs) : gcdZ zs ≤ 4611686018427387904 := foldl_gcd_le h 0 (by omega)
theorem Fit.take {zs : List Int} (h : Fit zs) (k : Nat) : Fit (zs.take k) := fun z hz => h z (List.mem_of_mem_take hz)

set_option maxRecDepth 100000 in
set_option maxHeartbeats 1000000 in
theorem rnormal_any (v : Value) (zs : List Int) (w : World) (hv : SliceI w v zs) (hf : Fit zs) (hl : zs.length ≤ 1000000) :
    Calls Tryz.prog 13 #[v] w fun e w' => ∃ u, e = .returned u ∧ SliceI w' u (refN zs) ∧ Below w.heap.size w w' := by
  obtain ⟨o, cap, rfl, hc⟩ := hv
  obtain ⟨i0, hi, hzz⟩ := Option.map_eq_some_iff.1 info3
  simp only [Prod.mk.injEq] at hzz
  obtain ⟨hz0, hz1, hz2⟩ := hzz
  have HI := Lib.hid hi
  have HZ0 := Lib.hid hz0
  have HZ1 := Lib.hid hz1
  have HZ2 := Lib.hid hz2
  clear hi hz0 hz1 hz2
  obtain ⟨n, hn⟩ : ∃ n, zs.length = n := ⟨_, rfl⟩
  obtain ⟨B0, hB0⟩ : ∃ B0, w.heap.size = B0 := ⟨_, rfl⟩
  rw [hn] at hl ⊢
  have HN := Lib.hid hn
  have HB := Lib.hid hB0
  have HC := Lib.hid hc
  clear hn hB0 hc
  go_enter Tryz.func13, Tryz.ntmps13
  go_wp2_with fail
  go_loopw [3, 4] (fun g i wr => ∃ k : Nat, k ≤ n ∧ g = .int .i64 (gcdZ (zs.take k)) ∧ i = .int .i64 k ∧ Below B0 w wr) (fun _ i _ => n - (intOf i).toNat)
  case atStart => exact ⟨0, Nat.zero_le _, rfl, rfl, Below.refl _ _⟩
  case round =>
    obtain ⟨k, hk, rfl, rfl, hb⟩ := hrel
    by_cases hlt : k < n
    · have hk' : k < zs.length := by have := HN.out; omega
      obtain ⟨b, off, rfl, hbl, hcs⟩ := HC.out (by intro e; rw [e] at hk'; simp at hk')
      have hcell : wr.cell? ⟨b, off + k, none⟩ = some (.int .i64 zs[k]) := (hb.cell (p := ⟨b, off + k, none⟩) (by have := HB.out; simp; omega)).trans (hcs k hk')
      have hG := Lib.hid (gcdZ_snoc (zs.take k) zs[k])
      rw [← List.take_succ_eq_append_getElem hk'] at hG
      have hg := gcdZ_le (hf.take k)
      have hz' := hf _ (List.getElem_mem hk')
      obtain ⟨z, hz⟩ : ∃ z, zs[k] = z := ⟨_, rfl⟩
      rw [hz] at hcell hG hz'
      clear hz hcs
      obtain ⟨G, hGe⟩ : ∃ G, gcdZ (zs.take k) = G := ⟨_, rfl⟩
      rw [hGe] at hG hg ⊢
      clear hGe
      go_wp2_with fail
      refine (rgcd_any (G : Int) z wr (by omega) (by omega)).mono ?_
      rintro e w1 ⟨rfl, q, rfl⟩
      have hb1 : Below B0 w (wr.drewN q) := below_drewN' hb q
      clear hb
      go_wp2
      go_roundw
      case rel => exact ⟨k + 1, by omega, by rw [hG.out], by go_num, hb1⟩
      case measure => simp [intOf]; omega
    · obtain rfl : k = n := by omega
      have hT := List.take_of_length_le (l := zs) (i := k) (by have := HN.out; omega)
      rw [hT]
      have hg := gcdZ_le hf
      obtain ⟨G, hGe⟩ : ∃ G, gcdZ zs = G := ⟨_, rfl⟩
      rw [hGe] at hg ⊢
      have HG := Lib.hid hGe
      clear hGe hT
      go_wp2_with fail
      obtain ⟨w0, rfl⟩ : ∃ w0 : World, w0 = wr := ⟨_, rfl⟩
      go_loopw [5, 6] (fun r i wx => ∃ j : Nat, j ≤ k ∧ i = .int .i64 j ∧ wx.ownsRow w0.heap.size 3 1 r j ((zs.take j).map fun z => Value.int .i64 (refD G z)) ∧ Below w0.heap.size w0 wx) (fun _ i _ => k - (intOf i).toNat)
      case atStart => exact ⟨0, Nat.zero_le _, rfl, by simpa using World.ownsRow_nil _ _ _ _, Below.refl _ _⟩
      case round =>
        obtain ⟨j, hj, rfl, hown, hbx⟩ := hrel
        by_cases hlt : j < k
        · have hj' : j < zs.length := by have := HN.out; omega
          obtain ⟨b, off, rfl, hbl, hcs⟩ := HC.out (by intro e; rw [e] at hj'; simp at hj')
          have hbw := hb.trans (hbx.mono (by have := HB.out; have := hb.size; omega))
          have hcell : wr.cell? ⟨b, off + j, none⟩ = some (.int .i64 zs[j]) := (hbw.cell (p := ⟨b, off + j, none⟩) (by have := HB.out; simp; omega)).trans (hcs j hj')
          have hz' := hf _ (List.getElem_mem hj')
          have HT := Lib.hid (List.take_succ_eq_append_getElem hj')
          obtain ⟨z, hzk⟩ : ∃ z, zs[j] = z := ⟨_, rfl⟩
          rw [hzk] at hcell hz' HT
          clear hzk hcs
          by_cases hg0 : 0 < G
          · have hD : refD G z = z.tdiv G := if_pos hg0
            have hgb : decide ((0 : Int) < (G : Int)) = true := by simp; omega
            have hgp : (0 : Int) < (G : Int) := by omega
            have hgz : ((G : Int) == 0) = false := by simp; omega
            have hlen : (zs.take j).length = j := by rw [List.length_take]; omega
            go_wp2_with (at_builtin; refine wpList_append_own _ rfl (.tmp 27) (.tmp 34) 22 rfl w0.heap.size 3 i0 (.int .i64 0) 1 8 Tryz.underlying22 HI.out HZ0.out HZ1.out HZ2.out rfl (by decide) _ j _ rfl (hown.alloc _) ⟨wr.heap.size, 0, none⟩ 1 1 [.int .i64 (z.tdiv G)] rfl rfl ?c1 ?c2 ?c3 ?c4 ?c5 ?_)
            case c1 =>
              intro m u hm
              match m, hm with
              | 0, hm => simp at hm; subst hm; simp [Addr.add]
            case c2 => intro u hu; simp at hu; subst hu; rfl
            case c3 => unfold maxLen; omega
            case c4 => omega
            case c5 => have := hbx.size; simp; omega
            · intro v' w2 hown' hgrow _
              rw [← hD] at hown'
              have hown2 : w2.ownsRow w0.heap.size 3 1 v' (j + 1) ((zs.take (j + 1)).map fun z => Value.int .i64 (refD G z)) := by
                rw [HT.out, List.map_append]
                simpa using hown'
              have hbw2 : Below w0.heap.size w0 w2 := (hbx.alloc hbx.size _).grown hgrow (by have := hbx.size; simp; omega) (fun k hk => (hown.lt k hk).1)
              clear hgrow hown hown' hbx hcell
              go_wp2
              go_roundw
              case rel => exact ⟨j + 1, by omega, by go_num, hown2, hbw2⟩
              case measure => simp [intOf]; omega
          · have hD : refD G z = 0 := if_neg hg0
            obtain rfl : G = 0 := by omega
            have hlen : (zs.take j).length = j := by rw [List.length_take]; omega
            go_wp2_with (at_builtin; refine wpList_append_own _ rfl (.tmp 36) (.tmp 37) 22 rfl w0.heap.size 3 i0 (.int .i64 0) 1 8 Tryz.underlying22 HI.out HZ0.out HZ1.out HZ2.out rfl (by decide) _ j _ rfl (hown.alloc _) ⟨wr.heap.size, 0, none⟩ 1 1 [.int .i64 0] rfl rfl ?c1 ?c2 ?c3 ?c4 ?c5 ?_)
            case c1 =>
              intro m u hm
              match m, hm with
              | 0, hm => simp at hm; subst hm; simp [Addr.add]
            case c2 => intro u hu; simp at hu; subst hu; rfl
            case c3 => unfold maxLen; omega
            case c4 => omega
            case c5 => have := hbx.size; simp; omega
            · intro v' w2 hown' hgrow _
              rw [← hD] at hown'
              have hown2 : w2.ownsRow w0.heap.size 3 1 v' (j + 1) ((zs.take (j + 1)).map fun z => Value.int .i64 (refD 0 z)) := by
                rw [HT.out, List.map_append]
                simpa using hown'
              have hbw2 : Below w0.heap.size w0 w2 := (hbx.alloc hbx.size _).grown hgrow (by have := hbx.size; simp; omega) (fun k hk => (hown.lt k hk).1)
              clear hgrow hown hown' hbx hcell
              go_wp2
              go_roundw
              case rel =>
                refine ⟨_, _, _, _, _, _, _, _, _, _, _, _, _, _, _, _, _, _, _, _, _, _, ⟨j + 1, by omega, ?_, hown2, hbw2⟩, rfl⟩
                go_num
              case measure => simp [intOf]; omega
        · obtain rfl : j = k := by omega
          have HTT := Lib.hid (List.take_of_length_le (l := zs) (i := j) (by have := HN.out; omega))
          go_wp2_with fail
          go_ret
          refine ⟨_, rfl, ?_, ?_⟩
          · have h := HTT.out
            rw [h] at hown
            refine ownsRow_sliceI (B0 := w0.heap.size) (n := j) (zs := refN zs) ?_
            have : (refN zs).map (Value.int .i64) = zs.map fun z => Value.int .i64 (refD G z) := by
              rw [refN, HG.out, List.map_map]; rfl
            rw [this]
            exact hown
          · rw [HB.out]; exact hb.trans (hbx.mono (by have := HB.out; have := hb.size; omega))
end Go.Proofs.YtochcofoknfjfaaGreatDoor
