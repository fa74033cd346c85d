/- Walk: exact.Of. -/
import Derived.Test.YtochcofoknfjfaaGreatDoorRow
namespace Go.Proofs.YtochcofoknfjfaaGreatDoor
open Go Go.RowKit Nt

theorem infoP : (Tryz.prog.info? 62).map (fun i => (i.zero, i.size, i.bytes)) = some (some (.pointer none), 1, 8) := by kernel_rfl

/-- A new row of numbers; nothing old has turned. -/
def RowNew (w : World) (zs : List Int) (e : Ending) (w' : World) : Prop := ∃ v, e = .returned v ∧ RowAt w' w.heap.size v zs ∧ Below w.heap.size w w'

set_option maxRecDepth 100000 in
set_option maxHeartbeats 1000000 in
theorem of_any (v : Value) (zs : List Int) (w : World) (hv : SliceI w v zs) (h64 : I64 zs) (hl : zs.length ≤ 1000000) : Calls Tryz.prog 31 #[v] w (RowNew w zs) := by
  obtain ⟨o, cap, rfl, hc⟩ := hv
  obtain ⟨i0, hi, hzz⟩ := Option.map_eq_some_iff.1 infoP
  simp only [Prod.mk.injEq] at hzz
  obtain ⟨hz0, hz1, hz2⟩ := hzz
  have HI := Lib.hid hi
  have HZ0 := Lib.hid hz0
  have HZ1 := Lib.hid hz1
  have HZ2 := Lib.hid hz2
  clear hi hz0 hz1 hz2
  obtain ⟨n, hn⟩ : ∃ n, zs.length = n := ⟨_, rfl⟩
  obtain ⟨B0, hB0⟩ : ∃ B0, w.heap.size = B0 := ⟨_, rfl⟩
  rw [hn] at hl ⊢
  have HN := Lib.hid hn
  have HB := Lib.hid hB0
  have HC := Lib.hid hc
  clear hn hB0 hc
  go_enter Tryz.func31, Tryz.ntmps31
  go_wp2
  go_loopw [3, 8] (fun r i wr => ∃ (k : Nat) (ps : List Value), k ≤ n ∧ i = .int .i64 k ∧ RowP wr B0 r (zs.take k) ps ∧ Below B0 w wr) (fun _ i _ => n - (intOf i).toNat)
  case atStart => exact ⟨0, [], Nat.zero_le _, rfl, by simpa using RowP.nil w B0, Below.refl _ _⟩
  case round =>
    obtain ⟨k, ps, hk, rfl, hrow, hb⟩ := hrel
    by_cases hlt : k < n
    · have hk' : k < zs.length := by have := HN.out; omega
      obtain ⟨b, off, rfl, hbl, hcs⟩ := HC.out (by intro e; rw [e] at hk'; simp at hk')
      have hcell : wr.cell? ⟨b, off + k, none⟩ = some (.int .i64 zs[k]) := (hb.cell (p := ⟨b, off + k, none⟩) (by have := HB.out; simp; omega)).trans (hcs k hk')
      obtain ⟨z, hz⟩ : ∃ z, zs[k] = z := ⟨_, rfl⟩
      have h64' := h64.get k hk'
      rw [hz] at hcell h64'
      have HZ := Lib.hid hz
      clear hz hcs
      have hlen : (zs.take k).length = k := by rw [List.length_take]; omega
      have HLEN := Lib.hid hlen
      clear hlen
      go_wp2_with fail
      refine (newInt_any z wr h64'.1 h64'.2).mono ?_
      rintro e w1 ⟨bz, S, rfl, hf, hS, hb1⟩
      have hrow1 := hrow.below hb1 (Nat.le_refl _)
      have hown1 := hrow1.own
      rw [HLEN.out] at hown1
      have hp : IntAt w1 (fun k => B0 ≤ k) (.pointer (some ⟨bz, 0, none⟩)) z := ⟨bz, S, rfl, hf, fun k hk => Nat.le_trans (by have := HB.out; have := hb.size; omega) (hS k hk)⟩
      have hbw1 := hb.trans (hb1.mono (by have := HB.out; have := hb.size; omega : B0 ≤ wr.heap.size))
      go_wp2_with (at_builtin; refine wpList_append_own _ rfl (.tmp 12) (.tmp 15) 58 rfl B0 62 i0 (.pointer none) 1 8 Tryz.underlying58 HI.out HZ0.out HZ1.out HZ2.out rfl (by decide) _ k ps rfl (hown1.alloc _) ⟨w1.heap.size, 0, none⟩ 1 1 [.pointer (some ⟨bz, 0, none⟩)] rfl rfl ?c1 ?c2 ?c3 ?c4 ?c5 ?_)
      case c1 =>
        intro j u hj
        match j, hj with
        | 0, hj => simp at hj; subst hj; simp [Addr.add]
      case c2 => intro u hu; simp at hu; subst hu; rfl
      case c3 => unfold maxLen; omega
      case c4 => omega
      case c5 => have := HB.out; have := hbw1.size; simp; omega
      · intro v' w2 hown' hgrow _
        have hpush := hrow1.push hp (by rw [HLEN.out]; exact hown') hgrow
        rw [← HZ.out, ← List.take_succ_eq_append_getElem hk'] at hpush
        have hbw2 : Below B0 w w2 := (hbw1.alloc (by have := HB.out; have := hbw1.size; omega) _).grown hgrow (by have := HB.out; have := hbw1.size; simp; omega) (fun k hk => (hown1.lt k hk).1)
        clear hown' hgrow hown1 hrow1 hrow hp hbw1 hb1 hb hf
        go_wp2
        go_roundw
        case rel => exact ⟨k + 1, _, by omega, by go_num, hpush, hbw2⟩
        case measure => simp [intOf]; omega
    · obtain rfl : k = n := by omega
      go_wp2
      go_ret
      refine ⟨_, rfl, ⟨ps, ?_⟩, ?_⟩
      · rw [HB.out]
        have := HN.out
        rwa [List.take_of_length_le (by omega)] at hrow
      · rw [HB.out]; exact hb
end Go.Proofs.YtochcofoknfjfaaGreatDoor
