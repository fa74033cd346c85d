/- Walks: rows.Large; exact.Told where a number is too great. Walk: rows.Dot. -/
import Derived.Test.YtggoncneinlpgaaGreatDoorRP
import Derived.Test.YtggoncneinlpgaaGreatDoorX23
import Derived.Test.YtggoncneinlpgaaGreatDoorDC
import Derived.Test.YtggoncneinlpgaaGreatDoorE34
namespace Go.Proofs.YtggoncneinlpgaaGreatDoor
open Go Go.RowKit Nt

set_option maxRecDepth 100000 in
set_option maxHeartbeats 1000000 in
theorem large_any (v : Value) (zs : List Int) (w : World) (hv : SliceI w v zs) (hl : zs.length ≤ 1000000) :
    Calls Tryz.prog 17 #[v] w fun e w' => e = .returned (.bool (largeB zs)) ∧ w = w' := by
  obtain ⟨o, cap, rfl, hc⟩ := hv
  obtain ⟨n, hn⟩ : ∃ n, zs.length = n := ⟨_, rfl⟩
  rw [hn] at hl ⊢
  have HN := Lib.hid hn
  have HC := Lib.hid hc
  clear hn hc
  go_enter Tryz.func17, Tryz.ntmps17
  go_wp2
  go_loop [7] (fun i => ∃ k : Nat, k ≤ n ∧ i = .int .i64 k ∧ Hid (largeB (zs.take k) = false)) (fun i => n - (intOf i).toNat)
  case atStart => exact ⟨0, Nat.zero_le _, rfl, rfl⟩
  case round =>
    obtain ⟨k, hk, rfl, hf⟩ := hrel
    by_cases hlt : k < n
    · have hk' : k < zs.length := by have := HN.out; omega
      obtain ⟨b, off, rfl, hbl, hcs⟩ := HC.out (by intro e; rw [e] at hk'; simp at hk')
      have hcell : w.cell? ⟨b, off + k, none⟩ = some (.int .i64 zs[k]) := hcs k hk'
      have HT := Lib.hid (show largeB (zs.take (k + 1)) = bigB zs[k] by
        rw [List.take_succ_eq_append_getElem hk', largeB, List.any_append]
        have := hf.out
        unfold largeB at this
        rw [this]
        simp)
      have HY : bigB zs[k] = true → Hid (largeB zs = true) := fun h => by
        show largeB zs = true
        unfold largeB
        rw [List.any_eq_true]
        exact ⟨_, List.getElem_mem hk', h⟩
      obtain ⟨z, hz⟩ : ∃ z, zs[k] = z := ⟨_, rfl⟩
      rw [hz] at hcell HT HY
      clear hz hcs
      by_cases hb : bigB z = true
      · have HR := HY hb
        clear HT HY
        unfold bigB at hb
        by_cases h1 : 2147483648 < z
        · clear hb
          go_wp2
          go_ret
          exact ⟨by rw [HR.out]; rfl, rfl⟩
        · have h2 : z < -2147483648 := by simpa [h1] using hb
          have h1' : decide (2147483648 < z) = false := by simp [h1]
          clear hb h1
          go_wp2
          go_ret
          exact ⟨by rw [HR.out]; rfl, rfl⟩
      · rw [Bool.not_eq_true] at hb
        have HF := Lib.hid (HT.out.trans hb)
        clear HT HY
        have h1 : decide (2147483648 < z) = false := by unfold bigB at hb; simp at hb; simp; omega
        have h2 : decide (z < -2147483648) = false := by unfold bigB at hb; simp at hb; simp; omega
        clear hb
        go_wp2
        go_round
        case rel => exact ⟨k + 1, by omega, by go_num, HF⟩
        case measure => simp [intOf]; omega
    · obtain rfl : k = n := by omega
      have HF := Lib.hid (show largeB zs = false by have := hf.out; have h := HN.out; rwa [List.take_of_length_le (by omega)] at this)
      go_wp2
      go_ret
      exact ⟨by rw [HF.out]; rfl, rfl⟩

set_option maxRecDepth 100000 in
set_option maxHeartbeats 2000000 in
theorem told_no (b cap : Nat) (rv : Value) (zs : List Int) (B0 : Nat) (w : World) (hcell : w.cell? ⟨b, 0, none⟩ = some rv) (hbl : b < w.heap.size) (hrow : RowAt w B0 rv zs) (hno : ∃ i, ∃ h : i < zs.length, 4611686018427387904 < zs[i].natAbs) (hl : zs.length ≤ 1000000) :
    Calls Tryz.prog 39 #[.slice (some ⟨b, 0, none⟩) 1 cap] w fun e w' => e = .returned (.tuple #[.slice none 0 0, .bool false]) ∧ Below w.heap.size w w' := by
  have HNO := Lib.hid hno
  clear hno
  obtain ⟨i0, hi, hzz⟩ := Option.map_eq_some_iff.1 info22
  simp only [Prod.mk.injEq] at hzz
  obtain ⟨hz0, hz1, hz2⟩ := hzz
  have HI := Lib.hid hi
  have HZ0 := Lib.hid hz0
  have HZ1 := Lib.hid hz1
  have HZ2 := Lib.hid hz2
  clear hi hz0 hz1 hz2
  obtain ⟨ps, hrow⟩ := hrow
  obtain ⟨o, rcap, rfl, _, _⟩ := hrow.form
  obtain ⟨n, hn⟩ : ∃ n, zs.length = n := ⟨_, rfl⟩
  have HROW := Lib.hid hrow
  rw [hn] at hl hcell
  have HN := Lib.hid hn
  clear hn hrow
  have hmk := run_make_row' (P := Tryz.prog) 23 3 (.int .i64 0) 8 Tryz.underlying23 info3 rfl .i64 .i64 n (by omega) (by omega)
  go_enter Tryz.func39, Tryz.ntmps39
  go_wp2_with fail
  refine (newInt_any 4611686018427387904 w (by omega) (by omega)).mono ?_
  rintro e w1 ⟨bm, Sm, rfl, hm, hSm, hb1⟩
  have hc1 : w1.cell? ⟨b, 0, none⟩ = some (.slice o n rcap) := (hb1.cell (p := ⟨b, 0, none⟩) hbl).trans hcell
  go_wp2_with fail
  refine wp_loop_rounds 2 ?_
  rw [rounds_succ]
  go_wp2_with fail
  have hbw1 : Below w.heap.size w w1 := hb1
  go_loopw [23] (fun i wr => ∃ (j : Nat) (csl : Array Value), j ≤ n ∧ i = .int .i64 j ∧ Blk wr w1.heap.size csl 3 ∧ Hid (csl.size = n) ∧ Hid (∀ i (h : i < zs.length), i < j → zs[i].natAbs ≤ 4611686018427387904) ∧ Below w1.heap.size w1 wr) (fun i _ => n - (intOf i).toNat)
  case atStart => exact ⟨0, _, Nat.zero_le _, rfl, Blk.new _ _ _, size_madeCells _ _, fun i h h0 => by omega, (Below.refl _ _).alloc (Nat.le_refl _) _⟩
  case round =>
    obtain ⟨j, csl, hj, rfl, hblk, hsz, hcs, hbx⟩ := hrel
    have hbw := hbw1.trans (hbx.mono hbw1.size)
    by_cases hlt : j < n
    · have hj' : j < zs.length := by have := HN.out; omega
      obtain ⟨a, cap', ha, _, hac, hcells⟩ := HROW.out.cell (by omega)
      obtain ⟨p, hp, hc⟩ := hcells j hj'
      obtain ⟨p', hp', bz, Sz, rfl, hz, hSz⟩ := HROW.out.ints j hj'
      rw [hp] at hp'
      obtain rfl := Option.some.inj hp'
      simp only [Value.slice.injEq] at ha
      obtain ⟨rfl, _, rfl⟩ := ha
      have hcz : wr.cell? ⟨a, j, none⟩ = some (.pointer (some ⟨bz, 0, none⟩)) := (hbw.cell (p := ⟨a, j, none⟩) hac).trans hc
      have hz' : IntF wr bz zs[j] Sz := hz.below hbw hz.lt
      have hm' : IntF wr bm 4611686018427387904 Sm := hm.below hbx hm.lt
      have HJ := Lib.hid hj'
      have HCS : zs[j].natAbs ≤ 4611686018427387904 → Hid (∀ i (h : i < zs.length), i < j + 1 → zs[i].natAbs ≤ 4611686018427387904) := fun hle i hi hlt' => by
        by_cases e : i = j
        · subst e; exact hle
        · exact hcs.out i hi (by omega)
      have hcall := Lib.hid (cmpAbs_any bz bm zs[j] 4611686018427387904 _ _ wr hz' hm')
      by_cases hle : zs[j].natAbs ≤ 4611686018427387904
      · have HCS' := HCS hle
        have hcmp : decide (0 < cmpI zs[j].natAbs (4611686018427387904 : Int).natAbs) = false := by
          unfold cmpI
          have : (4611686018427387904 : Int).natAbs = 4611686018427387904 := rfl
          rw [this]
          simp only [decide_eq_false_iff_not]
          split
          · omega
          · split <;> omega
        obtain ⟨cv, hcv⟩ : ∃ c, cmpI zs[j].natAbs (4611686018427387904 : Int).natAbs = c := ⟨_, rfl⟩
        rw [hcv] at hcmp hcall
        have h64 : ∀ q, Hid (Calls Tryz.prog 60 #[.pointer (some ⟨bz, 0, none⟩)] (wr.drewN q) fun e w' => e = .returned (.int .i64 zs[j]) ∧ w' = wr.drewN q) := fun q => int64_any bz zs[j] Sz (wr.drewN q) hz' (by omega) (by omega)
        have hcx := (hblk.cell j).trans (show csl[j]? = some (csl[j]'(by have := hsz.out; omega)) by simp)
        have hcf := hblk.free j
        have hjk : j < csl.size := by have := hsz.out; omega
        obtain ⟨z, hzk⟩ : ∃ z, zs[j] = z := ⟨_, rfl⟩
        simp only [hzk] at h64
        generalize csl[j]'(by have := hsz.out; omega) = old at hcx
        clear hzk hcv hc hcells hp hz hSz hz' hm' hle hj' hcs HCS
        go_wp2_with fail
        refine hcall.out.mono ?_
        rintro e w2 ⟨rfl, q, rfl⟩
        go_wp2_with fail
        refine (h64 q).out.mono ?_
        rintro e w2 ⟨rfl, rfl⟩
        obtain ⟨csl', hb', hs', _, _⟩ := Blk.of_set (w := wr.drewN q) (i := j) (Blk.drewN hblk q) (.int .i64 z) hjk
        have H1 := Lib.hid (hs'.trans hsz.out)
        have hbn : Below w1.heap.size w1 ((wr.drewN q).setCell ⟨w1.heap.size, j, none⟩ (.int .i64 z)) := Below.setCell (p := ⟨w1.heap.size, j, none⟩) (below_drewN' hbx q) (Nat.le_refl _) _
        clear hs' hblk hsz h64 hcall
        go_wp2
        go_roundw
        case rel => exact ⟨j + 1, csl', by omega, by go_num, hb', H1, HCS', hbn⟩
        case measure => simp [intOf]; omega
      · have hcmp : decide (0 < cmpI zs[j].natAbs (4611686018427387904 : Int).natAbs) = true := by
          unfold cmpI
          have : (4611686018427387904 : Int).natAbs = 4611686018427387904 := rfl
          rw [this]
          simp only [decide_eq_true_eq]
          split
          · omega
          · split <;> omega
        obtain ⟨cv, hcv⟩ : ∃ c, cmpI zs[j].natAbs (4611686018427387904 : Int).natAbs = c := ⟨_, rfl⟩
        rw [hcv] at hcmp hcall
        have HBW := Lib.hid hbw
        clear hcv hc hcells hp hz hSz hz' hm' hle hj' hcs HCS hblk hbw hbw1 hbx
        go_wp2_with fail
        refine hcall.out.mono ?_
        rintro e w2 ⟨rfl, q, rfl⟩
        go_wp2_with fail
        go_ret2
        exact ⟨rfl, below_drewN' HBW.out q⟩
    · exfalso
      obtain rfl : j = n := by omega
      obtain ⟨i, hi, h⟩ := HNO.out
      have := hcs.out i hi (by have := HN.out; omega)
      omega
end Go.Proofs.YtggoncneinlpgaaGreatDoor
namespace Go.Proofs.YtggoncneinlpgaaGreatDoor
open Go Go.RowKit Nt

theorem half_of {zs : List Int} (h : largeB zs = false) : Half zs := fun z hz => by
  unfold largeB at h
  rw [List.any_eq_false] at h
  have := h z hz
  unfold bigB at this
  simp at this
  omega

/-- Pointers of a row, and of a later one: they differ. -/
theorem row_ptr_lt {w : World} {B0 : Nat} {v : Value} {zs : List Int} {ps : List Value} (h : RowP w B0 v zs ps) {i : Nat} (hi : i < zs.length) {p : Value} (hp : ps[i]? = some p) : ∃ b, p = .pointer (some ⟨b, 0, none⟩) ∧ B0 ≤ b ∧ b < w.heap.size := by
  obtain ⟨p', hp', b, S, rfl, hf, hS⟩ := h.ints i hi
  rw [hp] at hp'
  have hm : b ∈ S := by obtain ⟨_, _, _, _, rfl⟩ := hf; simp
  exact ⟨b, Option.some.inj hp', hS b hm, hf.lt b hm⟩

/-- A row of one number. -/
theorem row_one {w0 w3 : World} {bd : Nat} {Sd : List Nat} {d : Int} {x : Value} {t : TypeId} (hd : IntF w3 bd d Sd) (hSd : ∀ k, k ∈ Sd → w0.heap.size ≤ k) (hle : w0.heap.size ≤ w3.heap.size) :
    RowAt ((w3.alloc (.cells #[.pointer (some ⟨bd, 0, none⟩)] 49)).alloc (.cells #[x] t)) w0.heap.size (.slice (some ⟨w3.heap.size, 0, none⟩) 1 1) [d] := by
  refine ⟨[.pointer (some ⟨bd, 0, none⟩)], ⟨rfl, .inr ⟨w3.heap.size, 1, #[.pointer (some ⟨bd, 0, none⟩)], rfl, hle, ?_, by simp, by unfold maxLen; omega, rfl, rfl⟩⟩, fun i hi => ?_⟩
  · exact (Blk.new w3 _ _).alloc _
  · match i, hi with
    | 0, _ => exact ⟨_, rfl, bd, Sd, rfl, hd.to fun k hk => ((Below.heap_alloc (w3.alloc _) _ _ (by have := hd.lt k hk; simp; omega)).trans (Below.heap_alloc w3 _ _ (hd.lt k hk))), hSd⟩

/-- What rows.Dot gives of two rows of one length, no number of which is large. -/
def dotErr (a : Nat → Addr) (d : Int) : Value := if d.natAbs ≤ 4611686018427387904 then .nilIface else sentV a 1
def dotNum (d : Int) : Int := if d.natAbs ≤ 4611686018427387904 then d else 0

end Go.Proofs.YtggoncneinlpgaaGreatDoor
