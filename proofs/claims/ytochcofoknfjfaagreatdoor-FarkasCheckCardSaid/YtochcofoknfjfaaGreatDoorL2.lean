/- Walk of the law FarkasCheck: the polyhedron's or the row's error. -/
import Derived.Test.YtochcofoknfjfaaGreatDoorPGL
import Derived.Test.YtochcofoknfjfaaGreatDoorP4
import Derived.Test.YtochcofoknfjfaaGreatDoorE34
import Derived.Test.YtochcofoknfjfaaGreatDoorR234
import Derived.Deep.RegionHeld3
namespace Go.Proofs.YtochcofoknfjfaaGreatDoor
open Go Go.RowKit Nt

set_option maxRecDepth 100000 in
set_option maxHeartbeats 4000000 in
theorem lawChk_err2 (v ra fw : Value) (dim den : Int) (rs : List RowZ) (r : RowZ) (ws : List Int) (a : Nat → Addr) (w : World) (he : ErrW w a) (hv : RowsAt w v rs) (hr : SliceI w ra r.a) (hf : SliceI w fw ws) (hl : rs.length ≤ 140737488355328) (hM0 : ∀ r ∈ rs, r.a.length ≤ 140737488355328) (h : wideB rs = true) (h1 : ¬ 100 < r.a.length) (h2 : ¬ 100 < ws.length) (hden : den ≤ 9223372036854775807) (h64 : I64 ws) (hre : rowErr dim rs r = 2) :
    Calls Tryz.prog 4 #[.agg #[.int .i64 dim, v], .agg #[.bool r.eq, ra, .int .i64 r.b], fw, .int .i64 den] w fun e w' => e = .returned (.bool true) ∧ Below w.heap.size w w' := by
  obtain ⟨of, cf, e0, q0⟩ := hf
  have hf : SliceI w fw ws := ⟨of, cf, e0, q0⟩
  obtain ⟨oa, ca, e1, q1⟩ := hr
  have hr : SliceI w ra r.a := ⟨oa, ca, e1, q1⟩
  obtain ⟨o, cap, e2, q2⟩ := hv
  have hv : RowsAt w v rs := ⟨o, cap, e2, q2⟩
  clear q0 q1 q2
  subst e0 e1 e2
  have HV := Lib.hid hv
  have HR := Lib.hid hr
  have HF := Lib.hid hf
  have HE := Lib.hid he
  have hb2 := lawW_below w dim o rs.length cap r.eq oa r.a.length ca r.b
  have HTW := Lib.hid (two_any a _ (he.below hb2 (Nat.le_refl _)))
  have HWI := Lib.hid (fun w1 (hb : Below w.heap.size w w1) => wide_any _ dim rs w1 (hv.below hb (Nat.le_refl _)) hl hM0)
  have HFF := Lib.hid (fun (w1 : World) (hb : Below (lawW w dim o rs.length cap r.eq oa r.a.length ca r.b).heap.size (lawW w dim o rs.length cap r.eq oa r.a.length ca r.b) w1) => (Lib.hid (lawW_cells hb) : Hid (Below w.heap.size w w1 ∧ ((w1.cell? ⟨w.heap.size, 0, none⟩ = some (.int .i64 dim) ∧ w1.cell? ⟨w.heap.size, 1, none⟩ = some (.slice o rs.length cap)) ∧ (w1.cell? ⟨w.heap.size + 1, 0, none⟩ = some (.bool r.eq) ∧ w1.cell? ⟨w.heap.size + 1, 1, none⟩ = some (.slice oa r.a.length ca) ∧ w1.cell? ⟨w.heap.size + 1, 2, none⟩ = some (.int .i64 r.b))))))
  have HWB := Lib.hid h
  obtain ⟨hn60, hM6⟩ := wide_len h
  have hM : ∀ r ∈ rs, r.a.length ≤ 1000000 := fun r hr => Nat.le_trans (hM6 r hr) (by omega)
  have hd1 : decide (100 < (r.a.length : Int)) = false := by simp; omega
  have hd2 : decide (100 < (ws.length : Int)) = false := by simp; omega
  have HRE := Lib.hid (fun w1 (hb : Below w.heap.size w w1) => rowErr_any _ _ dim rs r w1 (hv.below hb (Nat.le_refl _)) (hr.below hb (Nat.le_refl _)) hM)
  have HOP := Lib.hid (fun w1 (hb : Below w.heap.size w w1) => ownPoly_any _ dim rs w1 (hv.below hb (Nat.le_refl _)) (by omega) hM)
  have HIA := Lib.hid (fun w1 (hb : Below w.heap.size w w1) => ints_any _ r.a w1 (hr.below hb (Nat.le_refl _)) (by omega))
  have HIF := Lib.hid (fun w1 (hb : Below w.heap.size w w1) => ints_any _ ws w1 (hf.below hb (Nat.le_refl _)) (by omega))
  have HLG := Lib.hid (fun w1 (hb : Below w.heap.size w w1) => rlarge_any' _ r.a w1 (hr.below hb (Nat.le_refl _)) (by omega))
  have HCA := Lib.hid (fun (w1 : World) (ov u6 u7 : Value) (hb : Below w.heap.size w w1) (g1 : RowsAt w1 ov rs) (g2 : SliceI w1 u6 r.a) (g3 : SliceI w1 u7 ws) => check_any ov u6 u7 dim den rs r ws a w1 (he.below hb (Nat.le_refl _)) g1 g2 g3 hM hden h64)
  have hce : chkErr dim rs r ws den = 2 := by unfold chkErr; rw [if_pos (by rw [hre]; decide), hre]
  have HCK := Lib.hid (fun (w1 : World) (ov u6 u7 : Value) (hb : Below w.heap.size w w1) (g1 : RowsAt w1 ov rs) (g2 : SliceI w1 u6 r.a) (g3 : SliceI w1 u7 ws) => ((HCA.out w1 ov u6 u7 hb g1 g2 g3).mono (fun e w' ⟨g, k1, k2, _, k4⟩ => by
    rw [hce] at k1 k2
    rw [k2 (by decide)] at k1
    exact ⟨k1, k4⟩) : Calls Tryz.prog 18 #[.agg #[.int .i64 dim, ov], .agg #[.bool r.eq, u6, .int .i64 r.b], .agg #[u7, .int .i64 den]] w1 fun e w' => e = .returned (.tuple #[.bool false, .iface 320 (.pointer (some (a 1)))]) ∧ Below w1.heap.size w1 w'))
  have HRV := Lib.hid hre
  clear hce hre HCA
  obtain ⟨n, hn⟩ : ∃ n, rs.length = n := ⟨_, rfl⟩
  obtain ⟨la, hla⟩ : ∃ n, r.a.length = n := ⟨_, rfl⟩
  obtain ⟨m, hm⟩ : ∃ n, ws.length = n := ⟨_, rfl⟩
  rw [hn, hla] at HFF HTW
  rw [hla] at HR
  rw [hm] at HF
  rw [hn] at HV HWI
  rw [hla] at hd1
  rw [hm] at hd2
  rw [hn, hla] at HRE
  rw [hn] at HOP
  rw [hla] at HIA HLG
  rw [hm] at HIF
  rw [hn, hla, hm]
  have HN := Lib.hid hn
  have HLA := Lib.hid hla
  have HLM := Lib.hid hm
  have hm100 : m ≤ 100 := by omega
  clear he hv hr hf hb2 hn hla hm hl hM0 h h1 h2 hden h64 hn60 hM6 hM
  go_enter Tryz.func4, Tryz.ntmps4
  go_wp2_with fail
  refine HTW.out.mono ?_
  rintro e1 w1 ⟨rfl, hb1⟩
  obtain ⟨hbw, ⟨p0, p1⟩, ⟨x0, x1, x2⟩⟩ := (HFF.out w1 hb1).out
  have HB1 := Lib.hid hb1
  have HW1 := Lib.hid (HWI.out w1 hbw)
  rw [HWB.out] at HW1
  clear hb1 hbw HTW
  go_wp2_with fail
  refine HW1.out.mono ?_
  rintro e1 w2 ⟨rfl, hb2⟩
  have HB2 := Lib.hid (HB1.out.trans (hb2.mono HB1.out.size))
  clear p0 p1 x0 x1 x2
  obtain ⟨hbw, ⟨p0, p1⟩, ⟨x0, x1, x2⟩⟩ := (HFF.out w2 HB2.out).out
  have HBW2 := Lib.hid hbw
  clear hbw hb2 HW1
  go_wp2_with fail
  refine (HRE.out w2 HBW2.out).mono ?_
  rintro e1 w3 ⟨rfl, hb3⟩
  rw [HRV.out]
  have HB3 := Lib.hid (HB2.out.trans (hb3.mono HB2.out.size))
  clear p0 p1 x0 x1 x2
  obtain ⟨hbw, ⟨p0, p1⟩, ⟨x0, x1, x2⟩⟩ := (HFF.out w3 HB3.out).out
  have HBW3 := Lib.hid hbw
  clear hbw hb3 HRE HWI
  go_wp2_with fail
  go_loop [11, 12] (fun g i => ∃ k : Nat, k ≤ m ∧ i = .int .i64 k ∧ g = .bool (greatB den (ws.take k))) (fun _ i => m - (intOf i).toNat)
  case atStart => exact ⟨0, Nat.zero_le _, rfl, by rw [List.take_zero, greatB_nil]⟩
  case round =>
    obtain ⟨k, hk, rfl, rfl⟩ := hrel
    by_cases hlt : k < m
    · have hk' : k < ws.length := by have := HLM.out; omega
      obtain ⟨o', c', e, hc⟩ := HF.out.below HBW3.out (Nat.le_refl _)
      obtain ⟨b, off, rfl, hbl, hcs⟩ := hc (by intro e; rw [e] at hk'; simp at hk')
      simp only [Value.slice.injEq] at e
      obtain ⟨rfl, he, rfl⟩ := e
      clear he hc
      have hcell : w3.cell? ⟨b, off + k, none⟩ = some (.int .i64 ws[k]) := hcs k hk'
      have HT := Lib.hid (greatB_succ den hk')
      obtain ⟨z, hz⟩ : ∃ z, ws[k] = z := ⟨_, rfl⟩
      rw [hz] at hcell HT
      obtain ⟨g, hg⟩ : ∃ g, greatB den (ws.take k) = g := ⟨_, rfl⟩
      rw [hg] at HT ⊢
      clear hz hg hcs
      cases g
      · by_cases h1 : 4611686018427387904 < z
        · have h1' : decide (4611686018427387904 < z) = true := by simpa using h1
          have HT2 := Lib.hid (show greatB den (ws.take (k + 1)) = true by rw [HT.out, h1']; rfl)
          clear h1
          go_wp2_with fail
          go_round
          case rel => exact ⟨k + 1, by omega, by go_num, by rw [HT2.out]⟩
          case measure => simp [intOf]; omega
        · have h1' : decide (4611686018427387904 < z) = false := by simpa using h1
          have HT2 := Lib.hid (show greatB den (ws.take (k + 1)) = decide (z < -4611686018427387904) by rw [HT.out, h1']; rfl)
          clear h1
          go_wp2_with fail
          go_round
          case rel => exact ⟨k + 1, by omega, by go_num, by rw [HT2.out]⟩
          case measure => simp [intOf]; omega
      · have HT2 := Lib.hid (show greatB den (ws.take (k + 1)) = true by rw [HT.out]; rfl)
        go_wp2_with fail
        go_round
        case rel => exact ⟨k + 1, by omega, by go_num, by rw [HT2.out]⟩
        case measure => simp [intOf]; omega
    · obtain rfl : m = k := by omega
      rw [List.take_of_length_le (by have := HLM.out; omega)]
      obtain ⟨gt, hgt⟩ : ∃ g, greatB den ws = g := ⟨_, rfl⟩
      rw [hgt]
      clear hgt
      have HB4 := Lib.hid HB3.out
      have HB4d := Lib.hid HB4.out.drew
      have HBW4 := Lib.hid (HFF.out _ HB4d.out).out.1
      go_upto_region 14 with fail
      go_region_held3 (fun w1 => ((w1.cell? ⟨w.heap.size, 0, none⟩ = some (.int .i64 dim) ∧ w1.cell? ⟨w.heap.size, 1, none⟩ = some (.slice o n cap)) ∧ (w1.cell? ⟨w.heap.size + 1, 0, none⟩ = some (.bool r.eq) ∧ w1.cell? ⟨w.heap.size + 1, 1, none⟩ = some (.slice oa la ca) ∧ w1.cell? ⟨w.heap.size + 1, 2, none⟩ = some (.int .i64 r.b)))) (first | exact ⟨⟨p0, p1⟩, x0, x1, x2⟩ | exact K5 | exact K6 | exact K7 | exact K8 | go_keep) (first | (go_simp; go_at_call 19; refine (HOP.out _ HBW4.out).mono ?_; rintro e1 w5 ⟨ov, rfl, hov, hb5⟩; have hb5' := HB4d.out.trans (hb5.mono HB4d.out.size); have K5 := (HFF.out w5 hb5').out.2) | (go_simp; go_at_call 13; refine (HIA.out w5 (HFF.out w5 hb5').out.1).mono ?_; rintro e1 w6 ⟨u6, rfl, hu6, hb6⟩; have hz6 := hu6; obtain ⟨o6, c6, rfl, hz6⟩ := hz6; clear hz6; have hb6' := hb5'.trans (hb6.mono hb5'.size); have K6 := (HFF.out w6 hb6').out.2) | (go_simp; go_at_call 13; refine (HIF.out w6 (HFF.out w6 hb6').out.1).mono ?_; rintro e1 w7 ⟨u7, rfl, hu7, hb7⟩; have hz7 := hu7; obtain ⟨o7, c7, rfl, hz7⟩ := hz7; clear hz7; have hb7' := hb6'.trans (hb7.mono hb6'.size); have K7 := (HFF.out w7 hb7').out.2) | (go_simp; go_at_call 18; refine (HCK.out w7 ov _ _ (HFF.out w7 hb7').out.1 (hov.below (hb6.trans (hb7.mono hb6.size)) (Nat.le_refl _)) (hu6.below hb7 (Nat.le_refl _)) hu7).mono ?_; rintro e1 w8 ⟨rfl, hb8⟩; have hb8' := hb7'.trans (hb8.mono hb7'.size); have K8 := (HFF.out w8 hb8').out.2))
      have HB8 := Lib.hid hb8'
      clear hb8 hb8' hb7 hb7' hb6 hb6' hb5 hb5' hov hu6 hu7 K5 K6 K7 K8
      clear p0 p1 x0 x1 x2
      obtain ⟨hbw, ⟨p0, p1⟩, ⟨x0, x1, x2⟩⟩ := (HFF.out w8 HB8.out).out
      have HBW8 := Lib.hid hbw
      clear hbw
      have HCD := Lib.hid (coded_err 1 (by decide) a 2 w8 (HE.out.below HBW8.out (Nat.le_refl _)))
      unfold sentV at HCD
      go_wp2_with fail
      refine HCD.out.mono ?_
      rintro e1 w9 ⟨rfl, hb9⟩
      go_wp2_with fail
      go_ret
      exact ⟨rfl, HBW8.out.trans (hb9.mono HBW8.out.size)⟩

set_option maxRecDepth 100000 in
set_option maxHeartbeats 4000000 in
theorem lawChk_err3 (v ra fw : Value) (dim den : Int) (rs : List RowZ) (r : RowZ) (ws : List Int) (a : Nat → Addr) (w : World) (he : ErrW w a) (hv : RowsAt w v rs) (hr : SliceI w ra r.a) (hf : SliceI w fw ws) (hl : rs.length ≤ 140737488355328) (hM0 : ∀ r ∈ rs, r.a.length ≤ 140737488355328) (h : wideB rs = true) (h1 : ¬ 100 < r.a.length) (h2 : ¬ 100 < ws.length) (hden : den ≤ 9223372036854775807) (h64 : I64 ws) (hre : rowErr dim rs r = 3) :
    Calls Tryz.prog 4 #[.agg #[.int .i64 dim, v], .agg #[.bool r.eq, ra, .int .i64 r.b], fw, .int .i64 den] w fun e w' => e = .returned (.bool true) ∧ Below w.heap.size w w' := by
  obtain ⟨of, cf, e0, q0⟩ := hf
  have hf : SliceI w fw ws := ⟨of, cf, e0, q0⟩
  obtain ⟨oa, ca, e1, q1⟩ := hr
  have hr : SliceI w ra r.a := ⟨oa, ca, e1, q1⟩
  obtain ⟨o, cap, e2, q2⟩ := hv
  have hv : RowsAt w v rs := ⟨o, cap, e2, q2⟩
  clear q0 q1 q2
  subst e0 e1 e2
  have HV := Lib.hid hv
  have HR := Lib.hid hr
  have HF := Lib.hid hf
  have HE := Lib.hid he
  have hb2 := lawW_below w dim o rs.length cap r.eq oa r.a.length ca r.b
  have HTW := Lib.hid (two_any a _ (he.below hb2 (Nat.le_refl _)))
  have HWI := Lib.hid (fun w1 (hb : Below w.heap.size w w1) => wide_any _ dim rs w1 (hv.below hb (Nat.le_refl _)) hl hM0)
  have HFF := Lib.hid (fun (w1 : World) (hb : Below (lawW w dim o rs.length cap r.eq oa r.a.length ca r.b).heap.size (lawW w dim o rs.length cap r.eq oa r.a.length ca r.b) w1) => (Lib.hid (lawW_cells hb) : Hid (Below w.heap.size w w1 ∧ ((w1.cell? ⟨w.heap.size, 0, none⟩ = some (.int .i64 dim) ∧ w1.cell? ⟨w.heap.size, 1, none⟩ = some (.slice o rs.length cap)) ∧ (w1.cell? ⟨w.heap.size + 1, 0, none⟩ = some (.bool r.eq) ∧ w1.cell? ⟨w.heap.size + 1, 1, none⟩ = some (.slice oa r.a.length ca) ∧ w1.cell? ⟨w.heap.size + 1, 2, none⟩ = some (.int .i64 r.b))))))
  have HWB := Lib.hid h
  obtain ⟨hn60, hM6⟩ := wide_len h
  have hM : ∀ r ∈ rs, r.a.length ≤ 1000000 := fun r hr => Nat.le_trans (hM6 r hr) (by omega)
  have hd1 : decide (100 < (r.a.length : Int)) = false := by simp; omega
  have hd2 : decide (100 < (ws.length : Int)) = false := by simp; omega
  have HRE := Lib.hid (fun w1 (hb : Below w.heap.size w w1) => rowErr_any _ _ dim rs r w1 (hv.below hb (Nat.le_refl _)) (hr.below hb (Nat.le_refl _)) hM)
  have HOP := Lib.hid (fun w1 (hb : Below w.heap.size w w1) => ownPoly_any _ dim rs w1 (hv.below hb (Nat.le_refl _)) (by omega) hM)
  have HIA := Lib.hid (fun w1 (hb : Below w.heap.size w w1) => ints_any _ r.a w1 (hr.below hb (Nat.le_refl _)) (by omega))
  have HIF := Lib.hid (fun w1 (hb : Below w.heap.size w w1) => ints_any _ ws w1 (hf.below hb (Nat.le_refl _)) (by omega))
  have HLG := Lib.hid (fun w1 (hb : Below w.heap.size w w1) => rlarge_any' _ r.a w1 (hr.below hb (Nat.le_refl _)) (by omega))
  have HCA := Lib.hid (fun (w1 : World) (ov u6 u7 : Value) (hb : Below w.heap.size w w1) (g1 : RowsAt w1 ov rs) (g2 : SliceI w1 u6 r.a) (g3 : SliceI w1 u7 ws) => check_any ov u6 u7 dim den rs r ws a w1 (he.below hb (Nat.le_refl _)) g1 g2 g3 hM hden h64)
  have hce : chkErr dim rs r ws den = 3 := by unfold chkErr; rw [if_pos (by rw [hre]; decide), hre]
  have HCK := Lib.hid (fun (w1 : World) (ov u6 u7 : Value) (hb : Below w.heap.size w w1) (g1 : RowsAt w1 ov rs) (g2 : SliceI w1 u6 r.a) (g3 : SliceI w1 u7 ws) => ((HCA.out w1 ov u6 u7 hb g1 g2 g3).mono (fun e w' ⟨g, k1, k2, _, k4⟩ => by
    rw [hce] at k1 k2
    rw [k2 (by decide)] at k1
    exact ⟨k1, k4⟩) : Calls Tryz.prog 18 #[.agg #[.int .i64 dim, ov], .agg #[.bool r.eq, u6, .int .i64 r.b], .agg #[u7, .int .i64 den]] w1 fun e w' => e = .returned (.tuple #[.bool false, .iface 320 (.pointer (some (a 2)))]) ∧ Below w1.heap.size w1 w'))
  have HRV := Lib.hid hre
  clear hce hre HCA
  obtain ⟨n, hn⟩ : ∃ n, rs.length = n := ⟨_, rfl⟩
  obtain ⟨la, hla⟩ : ∃ n, r.a.length = n := ⟨_, rfl⟩
  obtain ⟨m, hm⟩ : ∃ n, ws.length = n := ⟨_, rfl⟩
  rw [hn, hla] at HFF HTW
  rw [hla] at HR
  rw [hm] at HF
  rw [hn] at HV HWI
  rw [hla] at hd1
  rw [hm] at hd2
  rw [hn, hla] at HRE
  rw [hn] at HOP
  rw [hla] at HIA HLG
  rw [hm] at HIF
  rw [hn, hla, hm]
  have HN := Lib.hid hn
  have HLA := Lib.hid hla
  have HLM := Lib.hid hm
  have hm100 : m ≤ 100 := by omega
  clear he hv hr hf hb2 hn hla hm hl hM0 h h1 h2 hden h64 hn60 hM6 hM
  go_enter Tryz.func4, Tryz.ntmps4
  go_wp2_with fail
  refine HTW.out.mono ?_
  rintro e1 w1 ⟨rfl, hb1⟩
  obtain ⟨hbw, ⟨p0, p1⟩, ⟨x0, x1, x2⟩⟩ := (HFF.out w1 hb1).out
  have HB1 := Lib.hid hb1
  have HW1 := Lib.hid (HWI.out w1 hbw)
  rw [HWB.out] at HW1
  clear hb1 hbw HTW
  go_wp2_with fail
  refine HW1.out.mono ?_
  rintro e1 w2 ⟨rfl, hb2⟩
  have HB2 := Lib.hid (HB1.out.trans (hb2.mono HB1.out.size))
  clear p0 p1 x0 x1 x2
  obtain ⟨hbw, ⟨p0, p1⟩, ⟨x0, x1, x2⟩⟩ := (HFF.out w2 HB2.out).out
  have HBW2 := Lib.hid hbw
  clear hbw hb2 HW1
  go_wp2_with fail
  refine (HRE.out w2 HBW2.out).mono ?_
  rintro e1 w3 ⟨rfl, hb3⟩
  rw [HRV.out]
  have HB3 := Lib.hid (HB2.out.trans (hb3.mono HB2.out.size))
  clear p0 p1 x0 x1 x2
  obtain ⟨hbw, ⟨p0, p1⟩, ⟨x0, x1, x2⟩⟩ := (HFF.out w3 HB3.out).out
  have HBW3 := Lib.hid hbw
  clear hbw hb3 HRE HWI
  go_wp2_with fail
  go_loop [11, 12] (fun g i => ∃ k : Nat, k ≤ m ∧ i = .int .i64 k ∧ g = .bool (greatB den (ws.take k))) (fun _ i => m - (intOf i).toNat)
  case atStart => exact ⟨0, Nat.zero_le _, rfl, by rw [List.take_zero, greatB_nil]⟩
  case round =>
    obtain ⟨k, hk, rfl, rfl⟩ := hrel
    by_cases hlt : k < m
    · have hk' : k < ws.length := by have := HLM.out; omega
      obtain ⟨o', c', e, hc⟩ := HF.out.below HBW3.out (Nat.le_refl _)
      obtain ⟨b, off, rfl, hbl, hcs⟩ := hc (by intro e; rw [e] at hk'; simp at hk')
      simp only [Value.slice.injEq] at e
      obtain ⟨rfl, he, rfl⟩ := e
      clear he hc
      have hcell : w3.cell? ⟨b, off + k, none⟩ = some (.int .i64 ws[k]) := hcs k hk'
      have HT := Lib.hid (greatB_succ den hk')
      obtain ⟨z, hz⟩ : ∃ z, ws[k] = z := ⟨_, rfl⟩
      rw [hz] at hcell HT
      obtain ⟨g, hg⟩ : ∃ g, greatB den (ws.take k) = g := ⟨_, rfl⟩
      rw [hg] at HT ⊢
      clear hz hg hcs
      cases g
      · by_cases h1 : 4611686018427387904 < z
        · have h1' : decide (4611686018427387904 < z) = true := by simpa using h1
          have HT2 := Lib.hid (show greatB den (ws.take (k + 1)) = true by rw [HT.out, h1']; rfl)
          clear h1
          go_wp2_with fail
          go_round
          case rel => exact ⟨k + 1, by omega, by go_num, by rw [HT2.out]⟩
          case measure => simp [intOf]; omega
        · have h1' : decide (4611686018427387904 < z) = false := by simpa using h1
          have HT2 := Lib.hid (show greatB den (ws.take (k + 1)) = decide (z < -4611686018427387904) by rw [HT.out, h1']; rfl)
          clear h1
          go_wp2_with fail
          go_round
          case rel => exact ⟨k + 1, by omega, by go_num, by rw [HT2.out]⟩
          case measure => simp [intOf]; omega
      · have HT2 := Lib.hid (show greatB den (ws.take (k + 1)) = true by rw [HT.out]; rfl)
        go_wp2_with fail
        go_round
        case rel => exact ⟨k + 1, by omega, by go_num, by rw [HT2.out]⟩
        case measure => simp [intOf]; omega
    · obtain rfl : m = k := by omega
      rw [List.take_of_length_le (by have := HLM.out; omega)]
      obtain ⟨gt, hgt⟩ : ∃ g, greatB den ws = g := ⟨_, rfl⟩
      rw [hgt]
      clear hgt
      have HB4 := Lib.hid HB3.out
      have HB4d := Lib.hid HB4.out.drew
      have HBW4 := Lib.hid (HFF.out _ HB4d.out).out.1
      go_upto_region 14 with fail
      go_region_held3 (fun w1 => ((w1.cell? ⟨w.heap.size, 0, none⟩ = some (.int .i64 dim) ∧ w1.cell? ⟨w.heap.size, 1, none⟩ = some (.slice o n cap)) ∧ (w1.cell? ⟨w.heap.size + 1, 0, none⟩ = some (.bool r.eq) ∧ w1.cell? ⟨w.heap.size + 1, 1, none⟩ = some (.slice oa la ca) ∧ w1.cell? ⟨w.heap.size + 1, 2, none⟩ = some (.int .i64 r.b)))) (first | exact ⟨⟨p0, p1⟩, x0, x1, x2⟩ | exact K5 | exact K6 | exact K7 | exact K8 | go_keep) (first | (go_simp; go_at_call 19; refine (HOP.out _ HBW4.out).mono ?_; rintro e1 w5 ⟨ov, rfl, hov, hb5⟩; have hb5' := HB4d.out.trans (hb5.mono HB4d.out.size); have K5 := (HFF.out w5 hb5').out.2) | (go_simp; go_at_call 13; refine (HIA.out w5 (HFF.out w5 hb5').out.1).mono ?_; rintro e1 w6 ⟨u6, rfl, hu6, hb6⟩; have hz6 := hu6; obtain ⟨o6, c6, rfl, hz6⟩ := hz6; clear hz6; have hb6' := hb5'.trans (hb6.mono hb5'.size); have K6 := (HFF.out w6 hb6').out.2) | (go_simp; go_at_call 13; refine (HIF.out w6 (HFF.out w6 hb6').out.1).mono ?_; rintro e1 w7 ⟨u7, rfl, hu7, hb7⟩; have hz7 := hu7; obtain ⟨o7, c7, rfl, hz7⟩ := hz7; clear hz7; have hb7' := hb6'.trans (hb7.mono hb6'.size); have K7 := (HFF.out w7 hb7').out.2) | (go_simp; go_at_call 18; refine (HCK.out w7 ov _ _ (HFF.out w7 hb7').out.1 (hov.below (hb6.trans (hb7.mono hb6.size)) (Nat.le_refl _)) (hu6.below hb7 (Nat.le_refl _)) hu7).mono ?_; rintro e1 w8 ⟨rfl, hb8⟩; have hb8' := hb7'.trans (hb8.mono hb7'.size); have K8 := (HFF.out w8 hb8').out.2))
      have HB8 := Lib.hid hb8'
      clear hb8 hb8' hb7 hb7' hb6 hb6' hb5 hb5' hov hu6 hu7 K5 K6 K7 K8
      clear p0 p1 x0 x1 x2
      obtain ⟨hbw, ⟨p0, p1⟩, ⟨x0, x1, x2⟩⟩ := (HFF.out w8 HB8.out).out
      have HBW8 := Lib.hid hbw
      clear hbw
      have HCD := Lib.hid (coded_err 2 (by decide) a 3 w8 (HE.out.below HBW8.out (Nat.le_refl _)))
      unfold sentV at HCD
      go_wp2_with fail
      refine HCD.out.mono ?_
      rintro e1 w9 ⟨rfl, hb9⟩
      go_wp2_with fail
      go_ret
      exact ⟨rfl, HBW8.out.trans (hb9.mono HBW8.out.size)⟩
end Go.Proofs.YtochcofoknfjfaaGreatDoor
