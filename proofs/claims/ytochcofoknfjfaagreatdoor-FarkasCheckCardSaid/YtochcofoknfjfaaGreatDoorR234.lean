/- Walk of the reference's NormalOf. Walks: ints, rows.Normal of a row that fits. Walks: halves, the law RowsNormal. -/
import Derived.Test.YtochcofoknfjfaaGreatDoorRP
import Derived.Test.YtochcofoknfjfaaGreatDoorX23
import Derived.Lib.SliceRun
namespace Go.Proofs.YtochcofoknfjfaaGreatDoor
open Go Go.RowKit Nt

theorem ownsRow_sliceI {w : World} {B0 : Nat} {v : Value} {n : Nat} {zs : List Int} (h : w.ownsRow B0 3 1 v n (zs.map (Value.int .i64))) : SliceI w v zs := by
  obtain ⟨hl, h⟩ := h
  have hl' : zs.length = n := by simpa using hl
  subst hl'
  rcases h with ⟨rfl, hn⟩ | ⟨g, cap, cur, rfl, hB, hb, h1, h2, h3, h4⟩
  · refine ⟨none, 0, by rw [hn], fun hne => ?_⟩
    exact absurd (List.eq_nil_of_length_eq_zero hn) hne
  · refine ⟨_, cap, rfl, fun _ => ⟨g, 0, rfl, (show Blk w g cur _ from hb).lt, fun i hi => ?_⟩⟩
    rw [Nat.zero_add, (show Blk w g cur _ from hb).cell]
    have : (zs.map (Value.int .i64))[i]? = cur[i]? := by
      rw [← h4, List.getElem?_take_of_lt (by omega)]
      simp
    rw [← this]
    simp [hi]

theorem gcdZ_zero {zs : List Int} (h : gcdZ zs = 0) : ∀ z ∈ zs, z = 0 := by
  suffices H : ∀ (zs : List Int) (g : Nat), zs.foldl (fun g z => Nat.gcd g z.natAbs) g = 0 → g = 0 ∧ ∀ z ∈ zs, z = 0 from (H zs 0 h).2
  intro zs
  induction zs with
  | nil => intro g hg; exact ⟨hg, by simp⟩
  | cons z zs ih =>
    intro g hg
    obtain ⟨h1, h2⟩ := ih _ hg
    have h3 := Nat.eq_zero_of_gcd_eq_zero_left h1
    have h4 := Nat.eq_zero_of_gcd_eq_zero_right h1
    refine ⟨h3, fun x hx => ?_⟩
    rcases List.mem_cons.1 hx with rfl | hx
    · omega
    · exact h2 x hx

def refD (g : Nat) (z : Int) : Int := if 0 < g then z.tdiv g else 0
def refN (zs : List Int) : List Int := zs.map (refD (gcdZ zs))
theorem refN_eq (zs : List Int) : refN zs = normZ zs := by
  unfold refN normZ
  split
  · rename_i h
    rw [h]
    conv => rhs; rw [← List.map_id zs]
    refine List.map_congr_left fun z hz => ?_
    rw [gcdZ_zero h z hz]
    rfl
  · refine List.map_congr_left fun z _ => ?_
    rw [refD, if_pos (by omega)]

/-- All are small. -/
def Mid (zs : List Int) : Prop := ∀ z ∈ zs, z.natAbs ≤ 4611686018427387904
theorem foldl_gcd_le {zs : List Int} (h : Fit zs) : ∀ g, g ≤ 4611686018427387904 → zs.foldl (fun g z => Nat.gcd g z.natAbs) g ≤ 4611686018427387904 := by
  induction zs with
  | nil => intro g hg; exact hg
  | cons z zs ih =>
    intro g hg
    refine ih (fun x hx => h x (List.mem_cons_of_mem _ hx)) _ ?_
    exact Nat.le_of_lt_succ (gcd_lt (M := 4611686018427387905) (Nat.lt_succ_of_le hg) (Nat.lt_succ_of_le (h z (List.mem_cons_self ..))))
theorem gcdZ_le {zs : List Int} (h : Fit zs) : gcdZ zs ≤ 4611686018427387904 := foldl_gcd_le h 0 (by omega)
theorem Fit.take {zs : List Int} (h : Fit zs) (k : Nat) : Fit (zs.take k) := fun z hz => h z (List.mem_of_mem_take hz)

set_option maxRecDepth 100000 in
set_option maxHeartbeats 1000000 in
theorem rnormal_any (v : Value) (zs : List Int) (w : World) (hv : SliceI w v zs) (hf : Fit zs) (hl : zs.length ≤ 1000000) :
    Calls Tryz.prog 14 #[v] w fun e w' => ∃ u, e = .returned u ∧ SliceI w' u (refN zs) ∧ Below w.heap.size w w' := by
  obtain ⟨o, cap, rfl, hc⟩ := hv
  obtain ⟨i0, hi, hzz⟩ := Option.map_eq_some_iff.1 info3
  simp only [Prod.mk.injEq] at hzz
  obtain ⟨hz0, hz1, hz2⟩ := hzz
  have HI := Lib.hid hi
  have HZ0 := Lib.hid hz0
  have HZ1 := Lib.hid hz1
  have HZ2 := Lib.hid hz2
  clear hi hz0 hz1 hz2
  obtain ⟨n, hn⟩ : ∃ n, zs.length = n := ⟨_, rfl⟩
  obtain ⟨B0, hB0⟩ : ∃ B0, w.heap.size = B0 := ⟨_, rfl⟩
  rw [hn] at hl ⊢
  have HN := Lib.hid hn
  have HB := Lib.hid hB0
  have HC := Lib.hid hc
  clear hn hB0 hc
  go_enter Tryz.func14, Tryz.ntmps14
  go_wp2_with fail
  go_loopw [3, 4] (fun g i wr => ∃ k : Nat, k ≤ n ∧ g = .int .i64 (gcdZ (zs.take k)) ∧ i = .int .i64 k ∧ Below B0 w wr) (fun _ i _ => n - (intOf i).toNat)
  case atStart => exact ⟨0, Nat.zero_le _, rfl, rfl, Below.refl _ _⟩
  case round =>
    obtain ⟨k, hk, rfl, rfl, hb⟩ := hrel
    by_cases hlt : k < n
    · have hk' : k < zs.length := by have := HN.out; omega
      obtain ⟨b, off, rfl, hbl, hcs⟩ := HC.out (by intro e; rw [e] at hk'; simp at hk')
      have hcell : wr.cell? ⟨b, off + k, none⟩ = some (.int .i64 zs[k]) := (hb.cell (p := ⟨b, off + k, none⟩) (by have := HB.out; simp; omega)).trans (hcs k hk')
      have hG := Lib.hid (gcdZ_snoc (zs.take k) zs[k])
      rw [← List.take_succ_eq_append_getElem hk'] at hG
      have hg := gcdZ_le (hf.take k)
      have hz' := hf _ (List.getElem_mem hk')
      obtain ⟨z, hz⟩ : ∃ z, zs[k] = z := ⟨_, rfl⟩
      rw [hz] at hcell hG hz'
      clear hz hcs
      obtain ⟨G, hGe⟩ : ∃ G, gcdZ (zs.take k) = G := ⟨_, rfl⟩
      rw [hGe] at hG hg ⊢
      clear hGe
      go_wp2_with fail
      refine (rgcd_any (G : Int) z wr (by omega) (by omega)).mono ?_
      rintro e w1 ⟨rfl, q, rfl⟩
      have hb1 : Below B0 w (wr.drewN q) := below_drewN' hb q
      clear hb
      go_wp2
      go_roundw
      case rel => exact ⟨k + 1, by omega, by rw [hG.out], by go_num, hb1⟩
      case measure => simp [intOf]; omega
    · obtain rfl : k = n := by omega
      have hT := List.take_of_length_le (l := zs) (i := k) (by have := HN.out; omega)
      rw [hT]
      have hg := gcdZ_le hf
      obtain ⟨G, hGe⟩ : ∃ G, gcdZ zs = G := ⟨_, rfl⟩
      rw [hGe] at hg ⊢
      have HG := Lib.hid hGe
      clear hGe hT
      go_wp2_with fail
      obtain ⟨w0, rfl⟩ : ∃ w0 : World, w0 = wr := ⟨_, rfl⟩
      go_loopw [5, 6] (fun r i wx => ∃ j : Nat, j ≤ k ∧ i = .int .i64 j ∧ wx.ownsRow w0.heap.size 3 1 r j ((zs.take j).map fun z => Value.int .i64 (refD G z)) ∧ Below w0.heap.size w0 wx) (fun _ i _ => k - (intOf i).toNat)
      case atStart => exact ⟨0, Nat.zero_le _, rfl, by simpa using World.ownsRow_nil _ _ _ _, Below.refl _ _⟩
      case round =>
        obtain ⟨j, hj, rfl, hown, hbx⟩ := hrel
        by_cases hlt : j < k
        · have hj' : j < zs.length := by have := HN.out; omega
          obtain ⟨b, off, rfl, hbl, hcs⟩ := HC.out (by intro e; rw [e] at hj'; simp at hj')
          have hbw := hb.trans (hbx.mono (by have := HB.out; have := hb.size; omega))
          have hcell : wr.cell? ⟨b, off + j, none⟩ = some (.int .i64 zs[j]) := (hbw.cell (p := ⟨b, off + j, none⟩) (by have := HB.out; simp; omega)).trans (hcs j hj')
          have hz' := hf _ (List.getElem_mem hj')
          have HT := Lib.hid (List.take_succ_eq_append_getElem hj')
          obtain ⟨z, hzk⟩ : ∃ z, zs[j] = z := ⟨_, rfl⟩
          rw [hzk] at hcell hz' HT
          clear hzk hcs
          by_cases hg0 : 0 < G
          · have hD : refD G z = z.tdiv G := if_pos hg0
            have hgb : decide ((0 : Int) < (G : Int)) = true := by simp; omega
            have hgp : (0 : Int) < (G : Int) := by omega
            have hgz : ((G : Int) == 0) = false := by simp; omega
            have hlen : (zs.take j).length = j := by rw [List.length_take]; omega
            go_wp2_with (at_builtin; refine wpList_append_own _ rfl (.tmp 27) (.tmp 34) 22 rfl w0.heap.size 3 i0 (.int .i64 0) 1 8 Tryz.underlying22 HI.out HZ0.out HZ1.out HZ2.out rfl (by decide) _ j _ rfl (hown.alloc _) ⟨wr.heap.size, 0, none⟩ 1 1 [.int .i64 (z.tdiv G)] rfl rfl ?c1 ?c2 ?c3 ?c4 ?c5 ?_)
            case c1 =>
              intro m u hm
              match m, hm with
              | 0, hm => simp at hm; subst hm; simp [Addr.add]
            case c2 => intro u hu; simp at hu; subst hu; rfl
            case c3 => unfold maxLen; omega
            case c4 => omega
            case c5 => have := hbx.size; simp; omega
            · intro v' w2 hown' hgrow _
              rw [← hD] at hown'
              have hown2 : w2.ownsRow w0.heap.size 3 1 v' (j + 1) ((zs.take (j + 1)).map fun z => Value.int .i64 (refD G z)) := by
                rw [HT.out, List.map_append]
                simpa using hown'
              have hbw2 : Below w0.heap.size w0 w2 := (hbx.alloc hbx.size _).grown hgrow (by have := hbx.size; simp; omega) (fun k hk => (hown.lt k hk).1)
              clear hgrow hown hown' hbx hcell
              go_wp2
              go_roundw
              case rel => exact ⟨j + 1, by omega, by go_num, hown2, hbw2⟩
              case measure => simp [intOf]; omega
          · have hD : refD G z = 0 := if_neg hg0
            obtain rfl : G = 0 := by omega
            have hlen : (zs.take j).length = j := by rw [List.length_take]; omega
            go_wp2_with (at_builtin; refine wpList_append_own _ rfl (.tmp 36) (.tmp 37) 22 rfl w0.heap.size 3 i0 (.int .i64 0) 1 8 Tryz.underlying22 HI.out HZ0.out HZ1.out HZ2.out rfl (by decide) _ j _ rfl (hown.alloc _) ⟨wr.heap.size, 0, none⟩ 1 1 [.int .i64 0] rfl rfl ?c1 ?c2 ?c3 ?c4 ?c5 ?_)
            case c1 =>
              intro m u hm
              match m, hm with
              | 0, hm => simp at hm; subst hm; simp [Addr.add]
            case c2 => intro u hu; simp at hu; subst hu; rfl
            case c3 => unfold maxLen; omega
            case c4 => omega
            case c5 => have := hbx.size; simp; omega
            · intro v' w2 hown' hgrow _
              rw [← hD] at hown'
              have hown2 : w2.ownsRow w0.heap.size 3 1 v' (j + 1) ((zs.take (j + 1)).map fun z => Value.int .i64 (refD 0 z)) := by
                rw [HT.out, List.map_append]
                simpa using hown'
              have hbw2 : Below w0.heap.size w0 w2 := (hbx.alloc hbx.size _).grown hgrow (by have := hbx.size; simp; omega) (fun k hk => (hown.lt k hk).1)
              clear hgrow hown hown' hbx hcell
              go_wp2
              go_roundw
              case rel =>
                refine ⟨_, _, _, _, _, _, _, _, _, _, _, _, _, _, _, _, _, _, _, _, _, _, ⟨j + 1, by omega, ?_, hown2, hbw2⟩, rfl⟩
                go_num
              case measure => simp [intOf]; omega
        · obtain rfl : j = k := by omega
          have HTT := Lib.hid (List.take_of_length_le (l := zs) (i := j) (by have := HN.out; omega))
          go_wp2_with fail
          go_ret
          refine ⟨_, rfl, ?_, ?_⟩
          · have h := HTT.out
            rw [h] at hown
            refine ownsRow_sliceI (B0 := w0.heap.size) (n := j) (zs := refN zs) ?_
            have : (refN zs).map (Value.int .i64) = zs.map fun z => Value.int .i64 (refD G z) := by
              rw [refN, HG.out, List.map_map]; rfl
            rw [this]
            exact hown
          · rw [HB.out]; exact hb.trans (hbx.mono (by have := HB.out; have := hb.size; omega))
end Go.Proofs.YtochcofoknfjfaaGreatDoor
namespace Go.Proofs.YtochcofoknfjfaaGreatDoor
open Go Go.RowKit Nt

set_option maxRecDepth 100000 in
set_option maxHeartbeats 1000000 in
theorem ints_any (v : Value) (zs : List Int) (w : World) (hv : SliceI w v zs) (hl : zs.length ≤ 1000000) :
    Calls Tryz.prog 13 #[v] w fun e w' => ∃ u, e = .returned u ∧ SliceI w' u zs ∧ Below w.heap.size w w' := by
  obtain ⟨o, cap, rfl, hc⟩ := hv
  obtain ⟨i0, hi, hzz⟩ := Option.map_eq_some_iff.1 info3
  simp only [Prod.mk.injEq] at hzz
  obtain ⟨hz0, hz1, hz2⟩ := hzz
  have HI := Lib.hid hi
  have HZ0 := Lib.hid hz0
  have HZ1 := Lib.hid hz1
  have HZ2 := Lib.hid hz2
  clear hi hz0 hz1 hz2
  by_cases hne : zs = []
  · subst hne
    clear hc
    rcases o with _ | o
    all_goals
      go_enter Tryz.func13, Tryz.ntmps13
      go_wp2_with fail
      go_ret
      exact ⟨_, rfl, ⟨none, 0, rfl, fun h => absurd rfl h⟩, Below.refl _ _⟩
  · obtain ⟨b, off, rfl, hbl, hcs⟩ := hc hne
    have HS := Lib.hid hcs
    obtain ⟨n, hn⟩ : ∃ n, zs.length = n := ⟨_, rfl⟩
    rw [hn] at hl ⊢
    have HN := Lib.hid hn
    clear hc hne hcs hn
    go_enter Tryz.func13, Tryz.ntmps13
    go_wp2_with (at_builtin; refine wpList_append_own _ rfl (.tmp 4) (.tmp 5) 22 rfl w.heap.size 3 i0 (.int .i64 0) 1 8 Tryz.underlying22 HI.out HZ0.out HZ1.out HZ2.out rfl (by decide) (.slice none 0 0) 0 [] rfl (World.ownsRow_nil _ _ _ _) ⟨b, off, none⟩ n cap (zs.map (Value.int .i64)) rfl ?c0 ?c1 ?c2 ?c3 ?c4 ?c5 ?_)
    case c0 => have := HN.out; simp [this]
    case c1 =>
      intro j u hj
      rw [List.getElem?_map, Option.map_eq_some_iff] at hj
      obtain ⟨z, hz, rfl⟩ := hj
      obtain ⟨h, rfl⟩ := List.getElem?_eq_some_iff.1 hz
      have e : (⟨b, off, none⟩ : Addr).add j = ⟨b, off + j, none⟩ := by
        simp only [Addr.add]
        split
        · next h => subst h; rfl
        · rfl
      rw [e]
      exact HS.out j h
    case c2 => intro u hu; obtain ⟨z, _, rfl⟩ := List.mem_map.1 hu; rfl
    case c3 => unfold maxLen; omega
    case c4 => omega
    case c5 => exact Nat.le_refl _
    · intro v' w2 hown' hgrow _
      have hb : Below w.heap.size w w2 := (Below.refl _ _).grown hgrow (Nat.le_refl _) (fun k hk => by simp [Value.ownBlock] at hk)
      have hs := ownsRow_sliceI hown'
      clear hown' hgrow
      go_wp2
      go_ret
      exact ⟨_, rfl, hs, hb⟩

set_option maxRecDepth 100000 in
set_option maxHeartbeats 1000000 in
theorem rowsNormal_any (v : Value) (zs : List Int) (w : World) (hv : SliceI w v zs) (hf : Fit zs) (hl : zs.length ≤ 1000000) :
    Calls Tryz.prog 12 #[v] w fun e w' => ∃ u, e = .returned u ∧ SliceI w' u (normZ zs) ∧ Below w.heap.size w w' := by
  have HV := Lib.hid hv
  obtain ⟨o, cap, rfl, hc⟩ := hv
  have h64 : I64 zs := fun z hz => by have := hf z hz; omega
  have h1 : One zs := fun z hz => by have := hf z hz; omega
  have HNF : Fit (normZ zs) := by
    rw [← refN_eq]
    intro z hz
    obtain ⟨x, hx, rfl⟩ := List.mem_map.1 hz
    unfold refD
    split
    · have := hf x hx
      rw [Int.natAbs_tdiv]
      exact Nat.le_trans (Nat.div_le_self _ _) this
    · simp
  have HNL : (normZ zs).length = zs.length := by rw [← refN_eq, refN, List.length_map]
  obtain ⟨n, hn⟩ : ∃ n, zs.length = n := ⟨_, rfl⟩
  rw [hn] at hl HNL ⊢
  have HN := Lib.hid hn
  clear hn hc
  have HCALL := Lib.hid (of_any _ zs w HV.out h64 (by have := HN.out; omega))
  rw [show (Value.slice o zs.length cap) = .slice o n cap by rw [HN.out]] at HCALL
  go_enter Tryz.func12, Tryz.ntmps12
  go_wp2_with fail
  refine HCALL.out.mono ?_
  rintro e w1 ⟨v1, rfl, hr1, hb1⟩
  go_wp2_with fail
  refine (normal_any v1 zs _ w1 hr1 hb1.size h1 (by have := HN.out; omega)).mono ?_
  rintro e w2 ⟨v2, rfl, hr2, hb2⟩
  have hb02 := hb1.trans (hb2.mono hb1.size)
  obtain ⟨ps2, hp2⟩ := hr2
  obtain ⟨o2, cap2, rfl, _, _⟩ := hp2.form
  rw [HNL] at hp2 ⊢
  have hr3 : ∀ x, RowAt (w2.alloc x) w.heap.size (.slice o2 n cap2) (normZ zs) := fun x => (show RowAt w2 w.heap.size _ _ from ⟨ps2, hp2⟩).below (B1 := w2.heap.size) ((Below.refl _ _).alloc (Nat.le_refl _) x) (Nat.le_refl _)
  clear hp2 hr1 hb1 hb2 HCALL
  go_wp2_with fail
  refine (told_one w2.heap.size 1 _ (normZ zs) w.heap.size _ (by simp) (by simp) (hr3 _) HNF (by omega)).mono ?_
  rintro e w3 ⟨ot, ct, bl, cl, csl, rfl, hcell, hblk, hsz, hcs, hol, hbl, hot, hb3⟩
  rw [HNL] at hcell hsz
  have hb03 : Below w.heap.size w w3 := (hb02.alloc hb02.size _).trans (hb3.mono (by have := hb02.size; simp; omega))
  have HNL' := Lib.hid HNL
  have HNN : normZ zs = [] → Hid (n = 0) := fun h => by rw [h] at HNL; exact HNL.symm
  have hS : SliceI w3 (.slice (some ⟨bl, 0, none⟩) n cl) (normZ zs) := ⟨_, cl, by rw [HNL], fun _ => ⟨bl, 0, rfl, hblk.lt, fun i hi => by rw [Nat.zero_add, hblk.cell]; exact hcs i hi⟩⟩
  clear hb3 hb02 hr3 hcs HNL hsz
  by_cases hn0 : n = 0
  · subst hn0
    have HNZ := Lib.hid (show normZ zs = [] from List.eq_nil_of_length_eq_zero HNL'.out)
    go_wp2_with fail
    go_ret
    refine ⟨_, rfl, ?_, hb03⟩
    rw [HNZ.out]
    exact ⟨none, 0, rfl, fun h => absurd rfl h⟩
  · have hnb : ((n : Int) == 0) = false := by simp; omega
    have q44 : ∀ (w : World) (a : Option Addr) (n c n' c' : Nat), (binOp .eql 44 (.slice a n c) (.slice none n' c')).run Tryz.prog w = .ok (.bool a.isNone) w := fun w a n c n' c' => Lib.run_eql_slice_nil w _ _ a n c n' c' Tryz.underlying44
    go_wp2_with fail
    go_ret
    exact ⟨_, rfl, hS, hb03⟩
end Go.Proofs.YtochcofoknfjfaaGreatDoor
namespace Go.Proofs.YtochcofoknfjfaaGreatDoor
open Go Go.RowKit Nt

set_option maxRecDepth 100000 in
set_option maxHeartbeats 1000000 in
theorem halves_any (w : World) : Calls Tryz.prog 9 #[] w fun e w' => e = .returned (.bool true) ∧ Below w.heap.size w w' := by
  go_enter Tryz.func9, Tryz.ntmps9
  go_wp2_with fail
  have h1 : SliceI (w.alloc (.cells #[.int .i64 4, .int .i64 6] 3)) (.slice (some ⟨w.heap.size, 0, none⟩) 2 2) [4, 6] :=
    ⟨_, 2, rfl, fun _ => ⟨_, 0, rfl, by simp, fun i hi => by
      match i, hi with
      | 0, _ => exact (Blk.new w _ _).cell 0
      | 1, _ => exact (Blk.new w _ _).cell 1⟩⟩
  refine (rowsNormal_any _ _ _ h1 (by intro z hz; simp at hz; omega) (by decide)).mono ?_
  rintro e w1 ⟨u, rfl, hu, hb1⟩
  have hb : Below w.heap.size w w1 := ((Below.refl _ _).alloc (Nat.le_refl _) _).trans (hb1.mono (by simp))
  rw [show normZ [4, 6] = [2, 3] by decide] at hu
  clear h1 hb1
  go_wp2_with fail
  have hu2 := hu.below (B1 := w1.heap.size) ((Below.refl _ _).alloc (Nat.le_refl _) (.cells #[.int .i64 2, .int .i64 3] 3)) (Nat.le_refl _)
  have h2 : SliceI (w1.alloc (.cells #[.int .i64 2, .int .i64 3] 3)) (.slice (some ⟨w1.heap.size, 0, none⟩) 2 2) [2, 3] :=
    ⟨_, 2, rfl, fun _ => ⟨_, 0, rfl, by simp, fun i hi => by
      match i, hi with
      | 0, _ => exact (Blk.new w1 _ _).cell 0
      | 1, _ => exact (Blk.new w1 _ _).cell 1⟩⟩
  refine (rsame_any _ _ _ _ _ hu2 h2 (by decide)).mono ?_
  rintro e w2 ⟨rfl, q, rfl⟩
  go_wp2
  go_ret
  exact ⟨rfl, below_drewN' (hb.alloc hb.size _) q⟩

set_option maxRecDepth 100000 in
set_option maxHeartbeats 1000000 in
theorem law_normal (v : Value) (zs : List Int) (w : World) (hv : SliceI w v zs) :
    Calls Tryz.prog 3 #[v] w fun e w' => e = .returned (.bool true) ∧ Below w.heap.size w w' := by
  have HV := Lib.hid hv
  obtain ⟨o, cap, rfl, hc⟩ := hv
  obtain ⟨n, hn⟩ : ∃ n, zs.length = n := ⟨_, rfl⟩
  have HN := Lib.hid hn
  rw [hn] at HV ⊢
  clear hn hc
  have HF : largeB zs = false → Hid (Fit zs) := fun h => by
    intro z hz
    unfold largeB at h
    rw [List.any_eq_false] at h
    have := h z hz
    unfold bigB at this
    simp at this
    omega
  by_cases hn : 400 < (n : Int)
  · go_enter Tryz.func3, Tryz.ntmps3
    go_wp2_with fail
    refine (halves_any w).mono ?_
    rintro e w1 ⟨rfl, hb1⟩
    go_wp2_with fail
    go_ret
    exact ⟨rfl, hb1⟩
  · have hl : n ≤ 1000000 := by omega
    by_cases hlg : largeB zs = true
    · go_enter Tryz.func3, Tryz.ntmps3
      go_wp2_with fail
      refine (halves_any w).mono ?_
      rintro e w1 ⟨rfl, hb1⟩
      have HL := Lib.hid (rlarge_any _ zs w1 (HV.out.below hb1 (Nat.le_refl _)) (by have := HN.out; omega))
      rw [hlg] at HL
      go_wp2_with fail
      refine HL.out.mono ?_
      rintro e w2 ⟨rfl, rfl⟩
      go_wp2_with fail
      go_ret
      exact ⟨rfl, hb1⟩
    · have hlg' : largeB zs = false := by simpa using hlg
      have hfit := (HF hlg').out
      have HE := Lib.hid (refN_eq zs)
      clear hlg HF
      go_enter Tryz.func3, Tryz.ntmps3
      go_wp2_with fail
      refine (halves_any w).mono ?_
      rintro e w1 ⟨rfl, hb1⟩
      have HS1 := Lib.hid (HV.out.below hb1 (Nat.le_refl _))
      have HL := Lib.hid (rlarge_any _ zs w1 HS1.out (by have := HN.out; omega))
      rw [hlg'] at HL
      go_wp2_with fail
      refine HL.out.mono ?_
      rintro e w2 ⟨rfl, rfl⟩
      go_wp2_with fail
      refine (ints_any _ zs w2 HS1.out (by have := HN.out; omega)).mono ?_
      rintro e w3 ⟨u3, rfl, hu3, hb3⟩
      have hb03 := hb1.trans (hb3.mono hb1.size)
      go_wp2_with fail
      refine (rowsNormal_any u3 zs w3 hu3 hfit (by have := HN.out; omega)).mono ?_
      rintro e w4 ⟨u4, rfl, hu4, hb4⟩
      have hb04 := hb03.trans (hb4.mono hb03.size)
      have HS4 := Lib.hid (HV.out.below hb04 (Nat.le_refl _))
      clear hu3 hb3 hb03 HS1 HL
      go_wp2_with fail
      refine (rnormal_any _ zs w4 HS4.out hfit (by have := HN.out; omega)).mono ?_
      rintro e w5 ⟨u5, rfl, hu5, hb5⟩
      have hb05 := hb04.trans (hb5.mono hb04.size)
      have hu4' := hu4.below hb5 (Nat.le_refl _)
      rw [HE.out] at hu5
      clear hu4 HS4 hb4 hb04
      go_wp2_with fail
      refine (rsame_any _ _ _ _ w5 hu4' hu5 ?_).mono ?_
      · have h := HN.out
        rw [← HE.out, refN, List.length_map, h]
        omega
      rintro e w6 ⟨rfl, q, rfl⟩
      go_wp2_with fail
      go_ret
      exact ⟨by simp, below_drewN' hb05 q⟩
end Go.Proofs.YtochcofoknfjfaaGreatDoor
