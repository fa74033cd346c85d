/- Walks: nat.setUint64, Int.SetInt64 at 1, Int.SetBit at 0. Walk: Int.SetBit of a number that is 0, onto itself. -/
import Derived.Test.YtggoncneinlpgaaGreatDoorW3
import Derived.Lib.SliceRun
namespace Go.Proofs.YtggoncneinlpgaaGreatDoor
open Go Go.RowKit Nt

set_option maxRecDepth 100000 in
set_option maxHeartbeats 400000 in
theorem setU_any (v : Value) (S : List Nat) (x : Nat) (w : World) (hs : Sto w v S) (hx : x < 18446744073709551616) :
    Calls Tryz.prog 74 #[v, .int .u64 x] w (NatRes w S x) := by
  have HS := Lib.hid (setWord_any v S x w hs hx)
  clear hs
  have hw : IntKind.u64.wrap (x : Int) = x := by rw [IntKind.wrap_u64]; omega
  go_enter Tryz.func74, Tryz.ntmps74
  go_wp2_with fail
  refine HS.out.mono ?_
  rintro e w1 ⟨u, S', rfl, h1, h2, h3⟩
  go_wp2_with fail
  go_ret
  exact ⟨_, S', rfl, h1, h2, h3⟩

set_option maxRecDepth 100000 in
set_option maxHeartbeats 400000 in
theorem setInt64_one (bz : Nat) (z : Int) (S : List Nat) (w : World) (hz : IntF w bz z S) :
    Calls Tryz.prog 50 #[.pointer (some ⟨bz, 0, none⟩), .int .i64 1] w (IntRes w bz S 1) := by
  obtain ⟨oz, cz, Tz, hz0, hz1, hzw, rfl, hzb⟩ := hz.cells
  have hsto := hzw.sto
  have hnz := hzw.notIn hzb
  have HS := Lib.hid (setU_any _ _ 1 w hsto (by omega))
  go_enter Tryz.func50, Tryz.ntmps50
  go_wp2_with fail
  refine HS.out.mono ?_
  rintro e w1 ⟨v', S', rfl, hw1, hS1, hc1⟩
  have q1 := Blk.chg (w := w) hzb hc1 hnz
  obtain ⟨q2, q3, q4, q5⟩ := q1.two
  obtain ⟨o1, cap1, rfl, hl1, hl2⟩ := wd_form hw1
  go_wp2_with fail
  go_ret
  refine ⟨_, rfl, intF_stored (z := 1) q1 hw1 rfl, ?_, ?_⟩
  · intro k hk
    rcases List.mem_cons.1 hk with rfl | hk
    · exact .inl (by simp)
    · rcases hS1 k hk with h | h
      · exact .inl (List.mem_cons_of_mem _ h)
      · exact .inr h
  · exact ((hc1.mono fun x hx => List.mem_cons_of_mem _ hx).setCell (.inl (by simp)) _).setCell (.inl (by simp)) _

theorem zeroW (w : World) : (zeroValue 80).run Tryz.prog w = .ok (.int .u64 0) w := by kernel_rfl
theorem infoWd : (Tryz.prog.info? 80).map (·.size) = some 1 := by kernel_rfl
theorem clear_one (w : World) (a cap : Nat) (cs : Array Value) (hb : Blk w a cs 80) (h : 0 < cs.size) (ty : TypeId) :
    (Builtin.clear_ #[60] ty #[.slice (some ⟨a, 0, none⟩) 1 cap]).run Tryz.prog w = .ok (.tuple #[]) (w.setCell ⟨a, 0, none⟩ (.int .u64 0)) := by
  have := Lib.run_clear_slice (P := Tryz.prog) w 60 80 ty (.int .u64 0) Tryz.underlying60 zeroW rfl rfl a 0 1 cap (by omega) (fun j hj => by
    have : j = 0 := by omega
    subst this
    rw [hb.cell]
    simp [h]) (fun j hj => hb.free _)
  exact this
theorem copy_none (o : Option Addr) (c : Nat) (a : Addr) (dLen dCap : Nat) (ty : TypeId) (w : World) : (Builtin.copy_ #[60, 60] ty #[.slice (some a) dLen dCap, .slice o 0 c]).run Tryz.prog w = .ok (goInt 0) w := by
  obtain ⟨i, hq, hs⟩ := Option.map_eq_some_iff.1 infoWd
  cases o <;> simp [Builtin.copy_, run_underlying Tryz.underlying60, Builtin.lenOf, Builtin.firstCells, sizeOf, typeInfo, hq, storeCells, loadCells, loadCellsFrom]

set_option maxRecDepth 100000 in
set_option maxHeartbeats 400000 in
theorem nsetBit_zero (v : Value) (S : List Nat) (o : Option Addr) (c i : Nat) (w : World) (hs : Sto w v S) (hi : i = 0 ∨ i = 1 ∨ i = 2) :
    Calls Tryz.prog 146 #[v, .slice o 0 c, .int .u64 i, .int .u64 1] w (NatRes w S (2 ^ i)) := by
  have HM := Lib.hid (make_any v S 1 w hs (by omega) (by omega))
  clear hs
  rcases hi with rfl | rfl | rfl
  all_goals
    go_enter Tryz.func146, Tryz.ntmps146
    go_wp2_with fail
    refine HM.out.mono ?_
    rintro e w1 ⟨a, cap, cs, rfl, h1, h2, h3, hb, ha, hc, hq⟩
    have f0 := (hb.cell 0).trans (show cs[0]? = some (cs[0]'(by omega)) by simp)
    have hcl := clear_one w1 a cap cs hb (by omega)
    have hcp := copy_none o c ⟨a, 0, none⟩ 1 cap
    obtain ⟨cs1, hb1, hs1, hv1, _⟩ := hb.of_set (i := 0) (.int .u64 0) (by omega)
    have f1 := (hb1.cell 0).trans hv1
    have g1 := hb1.free 0
    have HB1 := Lib.hid hb1
    have HH := Lib.hid h2
    have HC := Lib.hid hc
    have HA := Lib.hid ha
    have HS1 := Lib.hid hs1
    clear hb f0 hb1 hs1 hv1 hc ha hq
    go_wp2_with (first | simp only | simp only [hcp])
    go_ret
    obtain ⟨cs2, hb2, hs2, hv2, _⟩ := HB1.out.of_set (i := 0) (.int .u64 (bits .or .u64 0 _)) (by have := HS1.out; omega)
    refine ⟨_, [a], rfl, wd_one (by decide) (by rw [B_eq]; decide) h1 HH.out (hs2.trans (HS1.out.trans h3)) hb2 (hv2.trans rfl), ?_, ?_⟩
    · intro k hk
      simp at hk; subst hk; exact HA.out
    · exact ((HC.out.mono (by simp)).setCell HA.out _).setCell HA.out _
end Go.Proofs.YtggoncneinlpgaaGreatDoor
namespace Go.Proofs.YtggoncneinlpgaaGreatDoor
open Go Go.RowKit Nt

set_option maxRecDepth 100000 in
set_option maxHeartbeats 400000 in
theorem setBit_zero (b i : Nat) (S : List Nat) (w : World) (h : IntF w b 0 S) (hi : i = 0 ∨ i = 1 ∨ i = 2) :
    Calls Tryz.prog 112 #[.pointer (some ⟨b, 0, none⟩), .pointer (some ⟨b, 0, none⟩), .int .i64 i, .int .u64 1] w (IntRes w b S ((2 : Int) ^ i)) := by
  obtain ⟨o, c, T, h0, h1, hw, rfl, hb⟩ := h.cells
  have hl : (dg (0 : Int).natAbs).length = 0 := by rw [Int.natAbs_zero, dg_zero]; rfl
  rw [hl] at h1 hw
  have e0 : decide ((0 : Int) < 0) = false := by decide
  rw [e0] at h0
  have hsto := hw.sto
  have hn := hw.notIn hb
  have HN := Lib.hid (nsetBit_zero (.slice o 0 c) T o c i w.drew (by exact hsto) hi)
  have HE := Lib.hid (show ((2 : Int) ^ i).natAbs = 2 ^ i by rcases hi with rfl | rfl | rfl <;> rfl)
  have hb' := hb
  rw [e0, hl] at hb'
  have HB := Lib.hid hb'
  have HNI := Lib.hid hn
  clear hw hsto hb hl hb' hn h
  rcases hi with rfl | rfl | rfl
  all_goals
    go_enter Tryz.func112, Tryz.ntmps112
    go_wp2_with fail
    go_region_with (first | (go_at_call 146; refine HN.out.mono ?_; rintro e w1 ⟨v', S', rfl, hw1, hS1, hc1⟩; have q1 := Blk.chg (w := w.drew) HB.out hc1 HNI.out; obtain ⟨q2, q3, q4, q5⟩ := q1.two; obtain ⟨o1, cap1, rfl, hl1, hl2⟩ := wd_form hw1))
    all_goals
      go_wp2_with fail
      go_ret
      refine ⟨_, rfl, intF_stored q1 (by rw [HE.out]; exact hw1) rfl, ?_, ?_⟩
      · intro k hk
        rcases List.mem_cons.1 hk with rfl | hk
        · exact .inl (by simp)
        · rcases hS1 k hk with h | h
          · exact .inl (List.mem_cons_of_mem _ h)
          · exact .inr h
      · exact (((Chg.refl _ _).drew.trans (hc1.mono fun x hx => List.mem_cons_of_mem _ hx)).setCell (.inl (by simp)) _).setCell (.inl (by simp)) _
end Go.Proofs.YtggoncneinlpgaaGreatDoor
