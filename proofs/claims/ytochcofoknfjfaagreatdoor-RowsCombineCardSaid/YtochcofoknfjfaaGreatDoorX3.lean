/- Walk: exact.Told of one row. -/
import Derived.Test.YtochcofoknfjfaaGreatDoorX2
import Derived.Deep.OwnRows
namespace Go.Proofs.YtochcofoknfjfaaGreatDoor
open Go Go.RowKit Nt

/-- All can be told. -/
def Fit (zs : List Int) : Prop := ∀ z ∈ zs, z.natAbs ≤ 4611686018427387904

theorem info3 : (Tryz.prog.info? 3).map (fun i => (i.zero, i.size, i.bytes)) = some (some (.int .i64 0), 1, 8) := by kernel_rfl
theorem info22 : (Tryz.prog.info? 22).map (fun i => (i.zero, i.size, i.bytes)) = some (some (.slice none 0 0), 1, 24) := by kernel_rfl

/-- Told of one row that fits: one list of just these numbers, in new memory. -/
def ToldYes (w : World) (zs : List Int) (e : Ending) (w' : World) : Prop :=
  ∃ o c bl cl csl, e = .returned (.tuple #[.slice (some ⟨o, 0, none⟩) 1 c, .bool true]) ∧ w'.cell? ⟨o, 0, none⟩ = some (.slice (some ⟨bl, 0, none⟩) zs.length cl) ∧
    Blk w' bl csl 3 ∧ csl.size = zs.length ∧ (∀ i (h : i < zs.length), csl[i]? = some (.int .i64 zs[i])) ∧ w.heap.size ≤ o ∧ w.heap.size ≤ bl ∧ o < w'.heap.size ∧ Below w.heap.size w w'

set_option maxRecDepth 100000 in
set_option maxHeartbeats 2000000 in
theorem told_one (b cap : Nat) (rv : Value) (zs : List Int) (B0 : Nat) (w : World) (hcell : w.cell? ⟨b, 0, none⟩ = some rv) (hbl : b < w.heap.size) (hrow : RowAt w B0 rv zs) (hfit : Fit zs) (hl : zs.length ≤ 1000000) :
    Calls Tryz.prog 30 #[.slice (some ⟨b, 0, none⟩) 1 cap] w (ToldYes w zs) := by
  obtain ⟨i0, hi, hzz⟩ := Option.map_eq_some_iff.1 info22
  simp only [Prod.mk.injEq] at hzz
  obtain ⟨hz0, hz1, hz2⟩ := hzz
  have HI := Lib.hid hi
  have HZ0 := Lib.hid hz0
  have HZ1 := Lib.hid hz1
  have HZ2 := Lib.hid hz2
  clear hi hz0 hz1 hz2
  obtain ⟨ps, hrow⟩ := hrow
  obtain ⟨o, rcap, rfl, _, _⟩ := hrow.form
  obtain ⟨n, hn⟩ : ∃ n, zs.length = n := ⟨_, rfl⟩
  have HROW := Lib.hid hrow
  rw [hn] at hl hcell
  have HN := Lib.hid hn
  clear hn hrow
  have hmk := run_make_row' (P := Tryz.prog) 22 3 (.int .i64 0) 8 Tryz.underlying22 info3 rfl .i64 .i64 n (by omega) (by omega)
  go_enter Tryz.func30, Tryz.ntmps30
  go_wp2_with fail
  refine (newInt_any 4611686018427387904 w (by omega) (by omega)).mono ?_
  rintro e w1 ⟨bm, Sm, rfl, hm, hSm, hb1⟩
  have hc1 : w1.cell? ⟨b, 0, none⟩ = some (.slice o n rcap) := (hb1.cell (p := ⟨b, 0, none⟩) hbl).trans hcell
  go_wp2_with fail
  refine wp_loop_rounds 2 ?_
  rw [rounds_succ]
  go_wp2_with fail
  have hbw1 : Below w.heap.size w w1 := hb1
  go_loopw [23] (fun i wr => ∃ (j : Nat) (csl : Array Value), j ≤ n ∧ i = .int .i64 j ∧ Blk wr w1.heap.size csl 3 ∧ Hid (csl.size = n) ∧ Hid (∀ i (h : i < zs.length), i < j → csl[i]? = some (.int .i64 zs[i])) ∧ Below w1.heap.size w1 wr) (fun i _ => n - (intOf i).toNat)
  case atStart => exact ⟨0, _, Nat.zero_le _, rfl, Blk.new _ _ _, size_madeCells _ _, fun i h h0 => by omega, (Below.refl _ _).alloc (Nat.le_refl _) _⟩
  case round =>
    obtain ⟨j, csl, hj, rfl, hblk, hsz, hcs, hbx⟩ := hrel
    have hbw := hbw1.trans (hbx.mono hbw1.size)
    by_cases hlt : j < n
    · have hj' : j < zs.length := by have := HN.out; omega
      obtain ⟨a, cap', ha, _, hac, hcells⟩ := HROW.out.cell (by omega)
      obtain ⟨p, hp, hc⟩ := hcells j hj'
      obtain ⟨p', hp', bz, Sz, rfl, hz, hSz⟩ := HROW.out.ints j hj'
      rw [hp] at hp'
      obtain rfl := Option.some.inj hp'
      simp only [Value.slice.injEq] at ha
      obtain ⟨rfl, _, rfl⟩ := ha
      have hcz : wr.cell? ⟨a, j, none⟩ = some (.pointer (some ⟨bz, 0, none⟩)) := (hbw.cell (p := ⟨a, j, none⟩) hac).trans hc
      have hz' : IntF wr bz zs[j] Sz := hz.below hbw hz.lt
      have hm' : IntF wr bm 4611686018427387904 Sm := hm.below hbx hm.lt
      have hle : zs[j].natAbs ≤ 4611686018427387904 := hfit _ (List.getElem_mem hj')
      have hcmp : decide (0 < cmpI zs[j].natAbs (4611686018427387904 : Int).natAbs) = false := by
        unfold cmpI
        have : (4611686018427387904 : Int).natAbs = 4611686018427387904 := rfl
        rw [this]
        simp only [decide_eq_false_iff_not]
        split
        · omega
        · split <;> omega
      obtain ⟨cv, hcv⟩ : ∃ c, cmpI zs[j].natAbs (4611686018427387904 : Int).natAbs = c := ⟨_, rfl⟩
      have hcall := Lib.hid (cmpAbs_any bz bm zs[j] 4611686018427387904 _ _ wr hz' hm')
      rw [hcv] at hcmp hcall
      have HJ := Lib.hid hj'
      have h64 : ∀ q, Hid (Calls Tryz.prog 37 #[.pointer (some ⟨bz, 0, none⟩)] (wr.drewN q) fun e w' => e = .returned (.int .i64 zs[j]) ∧ w' = wr.drewN q) := fun q => int64_any bz zs[j] Sz (wr.drewN q) hz' (by omega) (by omega)
      have hcx := (hblk.cell j).trans (show csl[j]? = some (csl[j]'(by have := hsz.out; omega)) by simp)
      have hcf := hblk.free j
      have hjk : j < csl.size := by have := hsz.out; omega
      obtain ⟨z, hzk⟩ : ∃ z, zs[j] = z := ⟨_, rfl⟩
      have hcsn : ∀ csl' : Array Value, csl'.size = csl.size → csl'[j]? = some (.int .i64 zs[j]) → (∀ i, i ≠ j → csl'[i]? = csl[i]?) → Hid (csl'.size = n) ∧ Hid (∀ i (h : i < zs.length), i < j + 1 → csl'[i]? = some (.int .i64 zs[i])) := fun csl' h1 h2 h3 => ⟨h1.trans hsz.out, fun i hi hlt' => by
        by_cases e : i = j
        · subst e; exact h2
        · rw [h3 i e]; exact hcs.out i hi (by omega)⟩
      simp only [hzk] at h64
      generalize csl[j]'(by have := hsz.out; omega) = old at hcx
      have HZK := Lib.hid hzk
      clear hzk hcv hc hcells hp hz hSz hz' hm' hle hj'
      go_wp2_with fail
      refine hcall.out.mono ?_
      rintro e w2 ⟨rfl, q, rfl⟩
      go_wp2_with fail
      refine (h64 q).out.mono ?_
      rintro e w2 ⟨rfl, rfl⟩
      obtain ⟨csl', hb', hs', hv', ho'⟩ := Blk.of_set (w := wr.drewN q) (i := j) (Blk.drewN hblk q) (.int .i64 z) hjk
      obtain ⟨H1, H2⟩ := hcsn csl' hs' (by rw [HZK.out]; exact hv') ho'
      have hbn : Below w1.heap.size w1 ((wr.drewN q).setCell ⟨w1.heap.size, j, none⟩ (.int .i64 z)) := Below.setCell (p := ⟨w1.heap.size, j, none⟩) (below_drewN' hbx q) (Nat.le_refl _) _
      clear hs' hv' ho' hcsn hblk hcs hsz h64 hcall
      go_wp2
      go_roundw
      case rel => exact ⟨j + 1, csl', by omega, by go_num, hb', H1, H2, hbn⟩
      case measure => simp [intOf]; omega
    · obtain rfl : j = n := by omega
      have hcnone : wr.heap.size ≠ w1.heap.size := by have := hblk.lt; omega
      go_wp2_with fail
      rw [rounds_succ]
      go_wp2
      go_ret2
      have hN := HN.out
      have hsz1 := hbw.size
      have hsz2 := hbw1.size
      refine ⟨wr.heap.size + 1, _, w1.heap.size, j, csl, rfl, ?_, ?_, hsz.out.trans hN.symm, fun i hi => hcs.out i hi (by omega), by omega, hsz2, by simp, ?_⟩
      · rw [hN]
        have h := (Blk.new (wr.alloc (.cells #[.slice (some ⟨w1.heap.size, 0, none⟩) j j] 22)) (#[Value.slice (some ⟨w1.heap.size, 0, none⟩) j j] ++ Builtin.zeroCells #[Value.slice none 0 0] ((Question.appendCap 1 0 22).cut (wr.tape wr.drawn (Question.appendCap 1 0 22)) - 1)) 22).drew
        have h2 := h.cell 0
        simp only [World.size_alloc] at h2
        exact h2.trans ((Array.getElem?_append_left (by simp)).trans rfl)
      · exact ((hblk.alloc _).alloc _).drew
      · exact ((hbw.alloc hsz1 _).alloc (by simp; omega) _).drew
end Go.Proofs.YtochcofoknfjfaaGreatDoor
