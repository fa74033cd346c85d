/- Walk of the law FarkasCheck: the sums. Walk: the law FarkasCheck, every input. -/
import Derived.Test.YtochcofoknfjfaaGreatDoorL55
import Derived.Test.YtochcofoknfjfaaGreatDoorFG
import Derived.Deep.DeepCutAuto
import Derived.BigRegion
import Derived.BigQuiet
import Derived.Laws.MakeOwn
namespace Go.Proofs.YtochcofoknfjfaaGreatDoor
open Go Go.RowKit Nt

set_option maxRecDepth 100000 in
set_option maxHeartbeats 4000000 in
theorem lawChk_main (v ra fw : Value) (d : Nat) (den : Int) (rs : List RowZ) (r : RowZ) (ws : List Int) (a : Nat → Addr) (w : World) (he : ErrW w a) (hv : RowsAt w v rs) (hr : SliceI w ra r.a) (hf : SliceI w fw ws) (hl : rs.length ≤ 140737488355328) (hM0 : ∀ r ∈ rs, r.a.length ≤ 140737488355328) (h : wideB rs = true) (h1 : ¬ 100 < r.a.length) (h2 : ¬ 100 < ws.length) (hden : den ≤ 9223372036854775807) (h64 : I64 ws) (hre : rowErr (d : Int) rs r = 0) (hlw : ws.length = rs.length) (hdn : 1 ≤ den) (hA : largeB r.a = false) (hB : largeB [r.b] = false) (hok : okB den ws = true) (h0 : lowB (d : Int) rs 24 = true) (h1a : wildB r.a = false) (h2a : wildB [r.b] = false) (h3a : wildB ws = false) (h4a : den ≤ 30) :
    Calls Tryz.prog 4 #[.agg #[.int .i64 (d : Int), v], .agg #[.bool r.eq, ra, .int .i64 r.b], fw, .int .i64 den] w fun e w' => e = .returned (.bool true) ∧ Below w.heap.size w w' := by
  obtain ⟨of, cf, e0, q0⟩ := hf
  have hf : SliceI w fw ws := ⟨of, cf, e0, q0⟩
  obtain ⟨oa, ca, e1, q1⟩ := hr
  have hr : SliceI w ra r.a := ⟨oa, ca, e1, q1⟩
  obtain ⟨o, cap, e2, q2⟩ := hv
  have hv : RowsAt w v rs := ⟨o, cap, e2, q2⟩
  clear q0 q1 q2
  subst e0 e1 e2
  have HV := Lib.hid hv
  have HR := Lib.hid hr
  have HF := Lib.hid hf
  have HE := Lib.hid he
  have hb2 := lawW_below w (d : Int) o rs.length cap r.eq oa r.a.length ca r.b
  have HTW := Lib.hid (two_any a _ (he.below hb2 (Nat.le_refl _)))
  have HWI := Lib.hid (fun w1 (hb : Below w.heap.size w w1) => wide_any _ (d : Int) rs w1 (hv.below hb (Nat.le_refl _)) hl hM0)
  have HFF := Lib.hid (fun (w1 : World) (hb : Below (lawW w (d : Int) o rs.length cap r.eq oa r.a.length ca r.b).heap.size (lawW w (d : Int) o rs.length cap r.eq oa r.a.length ca r.b) w1) => (Lib.hid (lawW_cells hb) : Hid (Below w.heap.size w w1 ∧ ((w1.cell? ⟨w.heap.size, 0, none⟩ = some (.int .i64 (d : Int)) ∧ w1.cell? ⟨w.heap.size, 1, none⟩ = some (.slice o rs.length cap)) ∧ (w1.cell? ⟨w.heap.size + 1, 0, none⟩ = some (.bool r.eq) ∧ w1.cell? ⟨w.heap.size + 1, 1, none⟩ = some (.slice oa r.a.length ca) ∧ w1.cell? ⟨w.heap.size + 1, 2, none⟩ = some (.int .i64 r.b))))))
  have HWB := Lib.hid h
  obtain ⟨hn60, hM6⟩ := wide_len h
  have hM : ∀ r ∈ rs, r.a.length ≤ 1000000 := fun r hr => Nat.le_trans (hM6 r hr) (by omega)
  have hd1 : decide (100 < (r.a.length : Int)) = false := by simp; omega
  have hd2 : decide (100 < (ws.length : Int)) = false := by simp; omega
  have HRE := Lib.hid (fun w1 (hb : Below w.heap.size w w1) => rowErr_any _ _ (d : Int) rs r w1 (hv.below hb (Nat.le_refl _)) (hr.below hb (Nat.le_refl _)) hM)
  have HOP := Lib.hid (fun w1 (hb : Below w.heap.size w w1) => ownPoly_any _ (d : Int) rs w1 (hv.below hb (Nat.le_refl _)) (by omega) hM)
  have HIA := Lib.hid (fun w1 (hb : Below w.heap.size w w1) => ints_any _ r.a w1 (hr.below hb (Nat.le_refl _)) (by omega))
  have HIF := Lib.hid (fun w1 (hb : Below w.heap.size w w1) => ints_any _ ws w1 (hf.below hb (Nat.le_refl _)) (by omega))
  have HLG := Lib.hid (fun w1 (hb : Below w.heap.size w w1) => rlarge_any' _ r.a w1 (hr.below hb (Nat.le_refl _)) (by omega))
  have HCA := Lib.hid (fun (w1 : World) (ov u6 u7 : Value) (hb : Below w.heap.size w w1) (g1 : RowsAt w1 ov rs) (g2 : SliceI w1 u6 r.a) (g3 : SliceI w1 u7 ws) => check_any ov u6 u7 (d : Int) den rs r ws a w1 (he.below hb (Nat.le_refl _)) g1 g2 g3 hM hden h64)
  have hce : chkErr (d : Int) rs r ws den = 0 := by
    unfold chkErr bigR
    rw [if_neg (by rw [hre]; decide), if_neg (by omega), if_neg (by rw [hA, hB, hok]; decide)]
  have HCK := Lib.hid (fun (w1 : World) (ov u6 u7 : Value) (hb : Below w.heap.size w w1) (g1 : RowsAt w1 ov rs) (g2 : SliceI w1 u6 r.a) (g3 : SliceI w1 u7 ws) => ((HCA.out w1 ov u6 u7 hb g1 g2 g3).mono (fun e w' ⟨g, k1, _, k3, k4⟩ => by
    rw [hce, errV_zero] at k1
    exact ⟨g, k1, k3 hce, k4⟩) : Calls Tryz.prog 18 #[.agg #[.int .i64 (d : Int), ov], .agg #[.bool r.eq, u6, .int .i64 r.b], .agg #[u7, .int .i64 den]] w1 fun e w' => ∃ g, e = .returned (.tuple #[.bool g, .nilIface]) ∧ (g = true ↔ Holds (d : Int).toNat rs r ws den) ∧ Below w1.heap.size w1 w'))
  have HA := Lib.hid hA
  have HB := Lib.hid hB
  have HGT := Lib.hid (show greatB den ws = false by rw [greatB_ok hdn, hok]; rfl)
  have HLO := Lib.hid (fun w1 (hb : Below w.heap.size w w1) => low_any _ (d : Int) 24 rs w1 (hv.below hb (Nat.le_refl _)) (by omega) hM)
  have HTA := Lib.hid (fun w1 (hb : Below w.heap.size w w1) => rtame_any _ r.a w1 (hr.below hb (Nat.le_refl _)) (by omega))
  have HTF := Lib.hid (fun w1 (hb : Below w.heap.size w w1) => rtame_any _ ws w1 (hf.below hb (Nat.le_refl _)) (by omega))
  have hd4 : decide (den < 1) = false := by simp; omega
  have hd3 : ((ws.length : Int) != (rs.length : Int)) = false := by simp; omega
  have HLW := Lib.hid hlw
  have HDN := Lib.hid hdn
  have HRV := Lib.hid hre
  have H0 := Lib.hid h0
  have H1 := Lib.hid h1a
  have H2 := Lib.hid h2a
  have H3 := Lib.hid h3a
  have hd5 : decide (30 < den) = false := by simp; omega
  have HD30 := Lib.hid h4a
  have hpe := (rowErr_zero hre).1
  have hal := (polyErr_zero hpe).2.2.2.1
  have hn24 : rs.length ≤ 24 := (polyErr_zero hpe).2.2.1
  have hd3' : (d : Int) ≤ 3 := (low_tame h0).2
  have hd3'' : d ≤ 3 := by omega
  have HALL : Hid (∀ r ∈ rs, r.a.length = d) := fun r hr => by have := hal r hr; omega
  have HLR : Hid (r.a.length = d) := by have := (rowErr_zero hre).2.2; show r.a.length = d; omega
  have HTR := Lib.hid (low_tame h0).1
  have HTWS : Hid (Tm ws) := tame_of h3a
  have HTM := Lib.hid (row_tame h1a h2a)
  clear hpe hal hd3'
  clear hce hre HCA hA hB hok hdn hlw
  clear h0 h1a h2a h3a h4a
  obtain ⟨n, hn⟩ : ∃ n, rs.length = n := ⟨_, rfl⟩
  obtain ⟨la, hla⟩ : ∃ n, r.a.length = n := ⟨_, rfl⟩
  obtain ⟨m, hm⟩ : ∃ n, ws.length = n := ⟨_, rfl⟩
  rw [hn, hla] at HFF HTW
  rw [hla] at HR
  rw [hm] at HF
  rw [hn] at HV HWI
  rw [hla] at hd1
  rw [hm] at hd2
  rw [hn, hla] at HRE
  rw [hn] at HOP
  rw [hla] at HIA HLG
  rw [hm] at HIF
  rw [hm, hn] at hd3
  rw [hn] at HLO hn24
  rw [hla] at HTA
  rw [hm] at HTF
  rw [hn, hla, hm]
  have HN := Lib.hid hn
  have HLA := Lib.hid hla
  have HLM := Lib.hid hm
  have hm100 : m ≤ 100 := by omega
  clear he hv hr hf hb2 hn hla hm hl hM0 h h1 h2 hden h64 hn60 hM6 hM
  go_enter Tryz.func4, Tryz.ntmps4
  go_wp2_with fail
  refine HTW.out.mono ?_
  rintro e1 w1 ⟨rfl, hb1⟩
  obtain ⟨hbw, ⟨p0, p1⟩, ⟨x0, x1, x2⟩⟩ := (HFF.out w1 hb1).out
  have HB1 := Lib.hid hb1
  have HW1 := Lib.hid (HWI.out w1 hbw)
  rw [HWB.out] at HW1
  clear hb1 hbw HTW
  go_wp2_with fail
  refine HW1.out.mono ?_
  rintro e1 w2 ⟨rfl, hb2⟩
  have HB2 := Lib.hid (HB1.out.trans (hb2.mono HB1.out.size))
  clear p0 p1 x0 x1 x2
  obtain ⟨hbw, ⟨p0, p1⟩, ⟨x0, x1, x2⟩⟩ := (HFF.out w2 HB2.out).out
  have HBW2 := Lib.hid hbw
  clear hbw hb2 HW1
  go_wp2_with fail
  refine (HRE.out w2 HBW2.out).mono ?_
  rintro e1 w3 ⟨rfl, hb3⟩
  rw [HRV.out]
  have HB3 := Lib.hid (HB2.out.trans (hb3.mono HB2.out.size))
  clear p0 p1 x0 x1 x2
  obtain ⟨hbw, ⟨p0, p1⟩, ⟨x0, x1, x2⟩⟩ := (HFF.out w3 HB3.out).out
  have HBW3 := Lib.hid hbw
  clear hbw hb3 HRE HWI
  go_wp2_with fail
  go_loop [11, 12] (fun g i => ∃ k : Nat, k ≤ m ∧ i = .int .i64 k ∧ g = .bool (greatB den (ws.take k))) (fun _ i => m - (intOf i).toNat)
  case atStart => exact ⟨0, Nat.zero_le _, rfl, by rw [List.take_zero, greatB_nil]⟩
  case round =>
    obtain ⟨k, hk, rfl, rfl⟩ := hrel
    by_cases hlt : k < m
    · have hk' : k < ws.length := by have := HLM.out; omega
      obtain ⟨o', c', e, hc⟩ := HF.out.below HBW3.out (Nat.le_refl _)
      obtain ⟨b, off, rfl, hbl, hcs⟩ := hc (by intro e; rw [e] at hk'; simp at hk')
      simp only [Value.slice.injEq] at e
      obtain ⟨rfl, he, rfl⟩ := e
      clear he hc
      have hcell : w3.cell? ⟨b, off + k, none⟩ = some (.int .i64 ws[k]) := hcs k hk'
      have HT := Lib.hid (greatB_succ den hk')
      obtain ⟨z, hz⟩ : ∃ z, ws[k] = z := ⟨_, rfl⟩
      rw [hz] at hcell HT
      obtain ⟨g, hg⟩ : ∃ g, greatB den (ws.take k) = g := ⟨_, rfl⟩
      rw [hg] at HT ⊢
      clear hz hg hcs
      cases g
      · by_cases h1 : 4611686018427387904 < z
        · have h1' : decide (4611686018427387904 < z) = true := by simpa using h1
          have HT2 := Lib.hid (show greatB den (ws.take (k + 1)) = true by rw [HT.out, h1']; rfl)
          clear h1
          go_wp2_with fail
          go_round
          case rel => exact ⟨k + 1, by omega, by go_num, by rw [HT2.out]⟩
          case measure => simp [intOf]; omega
        · have h1' : decide (4611686018427387904 < z) = false := by simpa using h1
          have HT2 := Lib.hid (show greatB den (ws.take (k + 1)) = decide (z < -4611686018427387904) by rw [HT.out, h1']; rfl)
          clear h1
          go_wp2_with fail
          go_round
          case rel => exact ⟨k + 1, by omega, by go_num, by rw [HT2.out]⟩
          case measure => simp [intOf]; omega
      · have HT2 := Lib.hid (show greatB den (ws.take (k + 1)) = true by rw [HT.out]; rfl)
        go_wp2_with fail
        go_round
        case rel => exact ⟨k + 1, by omega, by go_num, by rw [HT2.out]⟩
        case measure => simp [intOf]; omega
    · obtain rfl : m = k := by omega
      rw [List.take_of_length_le (by have := HLM.out; omega)]
      rw [HGT.out]
      have HL3 := Lib.hid (HLG.out w3 HBW3.out)
      rw [HA.out] at HL3
      go_wp2_with fail
      refine HL3.out.mono ?_
      rintro e1 w4 ⟨rfl, rfl⟩
      have HLB := Lib.hid (rlarge_any' _ [r.b] _ (sliceI_one w3 r.b 3) (by simp))
      rw [HB.out] at HLB
      clear HL3 HLG
      go_wp2_with fail
      refine HLB.out.mono ?_
      rintro e1 w4 ⟨rfl, rfl⟩
      have HB4 : Hid (Below (lawW w (d : Int) o n cap r.eq oa la ca r.b).heap.size (lawW w (d : Int) o n cap r.eq oa la ca r.b) (w3.alloc (.cells #[.int .i64 r.b] 3))) := HB3.out.alloc HB3.out.size _
      obtain ⟨w4, hw4⟩ : ∃ w4, w3.alloc (.cells #[.int .i64 r.b] 3) = w4 := ⟨_, rfl⟩
      rw [hw4] at HB4 ⊢
      clear hw4 HLB
      clear p0 p1 x0 x1 x2
      obtain ⟨hbw, ⟨p0, p1⟩, ⟨x0, x1, x2⟩⟩ := (HFF.out w4 HB4.out).out
      clear hbw
      have HB4d := Lib.hid HB4.out.drew
      have HBW4 := Lib.hid (HFF.out _ HB4d.out).out.1
      go_upto_region 14 with fail
      go_region_held3 (fun w1 => ((w1.cell? ⟨w.heap.size, 0, none⟩ = some (.int .i64 (d : Int)) ∧ w1.cell? ⟨w.heap.size, 1, none⟩ = some (.slice o n cap)) ∧ (w1.cell? ⟨w.heap.size + 1, 0, none⟩ = some (.bool r.eq) ∧ w1.cell? ⟨w.heap.size + 1, 1, none⟩ = some (.slice oa la ca) ∧ w1.cell? ⟨w.heap.size + 1, 2, none⟩ = some (.int .i64 r.b)))) (first | exact ⟨⟨p0, p1⟩, x0, x1, x2⟩ | exact K5 | exact K6 | exact K7 | exact K8 | go_keep) (first | (go_simp; go_at_call 19; refine (HOP.out _ HBW4.out).mono ?_; rintro e1 w5 ⟨ov, rfl, hov, hb5⟩; have hb5' := HB4d.out.trans (hb5.mono HB4d.out.size); have K5 := (HFF.out w5 hb5').out.2) | (go_simp; go_at_call 13; refine (HIA.out w5 (HFF.out w5 hb5').out.1).mono ?_; rintro e1 w6 ⟨u6, rfl, hu6, hb6⟩; have hz6 := hu6; obtain ⟨o6, c6, rfl, hz6⟩ := hz6; clear hz6; have hb6' := hb5'.trans (hb6.mono hb5'.size); have K6 := (HFF.out w6 hb6').out.2) | (go_simp; go_at_call 13; refine (HIF.out w6 (HFF.out w6 hb6').out.1).mono ?_; rintro e1 w7 ⟨u7, rfl, hu7, hb7⟩; have hz7 := hu7; obtain ⟨o7, c7, rfl, hz7⟩ := hz7; clear hz7; have hb7' := hb6'.trans (hb7.mono hb6'.size); have K7 := (HFF.out w7 hb7').out.2) | (go_simp; go_at_call 18; refine (HCK.out w7 ov _ _ (HFF.out w7 hb7').out.1 (hov.below (hb6.trans (hb7.mono hb6.size)) (Nat.le_refl _)) (hu6.below hb7 (Nat.le_refl _)) hu7).mono ?_; rintro e1 w8 ⟨g, rfl, hg, hb8⟩; have hb8' := hb7'.trans (hb8.mono hb7'.size); have K8 := (HFF.out w8 hb8').out.2))
      have HB8 := Lib.hid hb8'
      clear hb8 hb8' hb7 hb7' hb6 hb6' hb5 hb5' hov hu6 hu7 K5 K6 K7 K8
      clear p0 p1 x0 x1 x2
      obtain ⟨hbw, ⟨p0, p1⟩, ⟨x0, x1, x2⟩⟩ := (HFF.out w8 HB8.out).out
      have HBW8 := Lib.hid hbw
      have HGG := Lib.hid hg
      clear hbw hg
      go_wp2_with fail
      have HL8 := Lib.hid (HLO.out w8 HBW8.out)
      rw [H0.out] at HL8
      refine HL8.out.mono ?_
      rintro e1 w9 ⟨rfl, hb9⟩
      have HB9 := Lib.hid (HB8.out.trans (hb9.mono HB8.out.size))
      clear p0 p1 x0 x1 x2
      obtain ⟨hbw, ⟨p0, p1⟩, ⟨x0, x1, x2⟩⟩ := (HFF.out w9 HB9.out).out
      have HBW9 := Lib.hid hbw
      clear hbw hb9 HL8
      go_wp2_with fail
      have HT9 := Lib.hid (HTA.out w9 HBW9.out)
      rw [H1.out] at HT9
      refine HT9.out.mono ?_
      rintro e1 w10 ⟨rfl, rfl⟩
      have HT10 := Lib.hid (rtame_any _ [r.b] _ (sliceI_one w9 r.b 3) (by simp))
      rw [H2.out] at HT10
      go_wp2_with fail
      refine HT10.out.mono ?_
      rintro e1 w10 ⟨rfl, rfl⟩
      have HB10 : Hid (Below (lawW w (d : Int) o n cap r.eq oa la ca r.b).heap.size (lawW w (d : Int) o n cap r.eq oa la ca r.b) (w9.alloc (.cells #[.int .i64 r.b] 3))) := HB9.out.alloc HB9.out.size _
      obtain ⟨w10, hw10⟩ : ∃ w4, w9.alloc (.cells #[.int .i64 r.b] 3) = w4 := ⟨_, rfl⟩
      rw [hw10] at HB10 ⊢
      clear hw10 HT10
      clear p0 p1 x0 x1 x2
      obtain ⟨hbw, ⟨p0, p1⟩, ⟨x0, x1, x2⟩⟩ := (HFF.out w10 HB10.out).out
      have HBW10 := Lib.hid hbw
      clear hbw
      have HT11 := Lib.hid (HTF.out w10 HBW10.out)
      rw [H3.out] at HT11
      go_wp2_with fail
      refine HT11.out.mono ?_
      rintro e1 w11 ⟨rfl, rfl⟩
      have hmk10 : (Instr.makeSlice 22 (.int .i64 ((d : Int) + 1)) (.int .i64 ((d : Int) + 1))).run Tryz.prog w10 = .ok (.slice (some ⟨w10.heap.size, 0, none⟩) (d + 1) (d + 1)) (w10.alloc (.cells (madeCells #[.int .i64 0] (d + 1)) 3)) := run_make_row' (P := Tryz.prog) 22 3 (.int .i64 0) 8 Tryz.underlying22 info3 rfl .i64 .i64 (d + 1) (by omega) (by omega) w10
      have HS10 := Lib.hid HB10.out.size
      go_wp2_with fail
      clear hmk10
      go_loopw [16, 17] (fun wn i wr => ∃ (k : Nat) (csl : Array Value), k ≤ m ∧ i = .int .i64 k ∧ wn = .bool (wantB rs ws k) ∧ Blk wr w10.heap.size csl 3 ∧ Hid (csl.size = d + 1) ∧ Hid (∀ q, q < d + 1 → csl[q]? = some (.int .i64 (sumAt d rs ws k q))) ∧ Hid (Below (lawW w (d : Int) o n cap r.eq oa la ca r.b).heap.size (lawW w (d : Int) o n cap r.eq oa la ca r.b) wr)) (fun _ i _ => m - (intOf i).toNat)
      case atStart => exact ⟨0, _, Nat.zero_le _, rfl, rfl, Blk.new _ _ _, size_madeCells _ _, made_zero, HB10.out.alloc HS10.out _⟩
      case round =>
        obtain ⟨k, csl, hk, rfl, rfl, hblk, hsz, hcs, hB⟩ := hrel
        by_cases hlt : k < m
        · have hkw : k < ws.length := by have := HLM.out; omega
          have hkr : k < rs.length := by have := HLM.out; have := HLW.out; omega
          have hkn : k < n := by have := HN.out; omega
          clear p0 p1 x0 x1 x2
          obtain ⟨hbw, ⟨p0, p1⟩, ⟨x0, x1, x2⟩⟩ := (HFF.out wr hB.out).out
          obtain ⟨o', c', e, hc⟩ := HF.out
          obtain ⟨bw, ofw, rfl, hbl, hcw⟩ := hc (by intro e; rw [e] at hkw; simp at hkw)
          simp only [Value.slice.injEq] at e
          obtain ⟨rfl, he, rfl⟩ := e
          clear he hc
          have hcell : w.cell? ⟨bw, ofw + k, none⟩ = some (.int .i64 ws[k]) := hcw k hkw
          obtain ⟨br, ofr, cap', oa', ca', e1, hbl2, g1, g2, g3, g4⟩ := HV.out.get hkr
          simp only [Value.slice.injEq] at e1
          obtain ⟨rfl, hnn, rfl⟩ := e1
          clear hnn
          have hlR : rs[k].a.length = d := HALL.out _ (List.getElem_mem hkr)
          rw [hlR] at g2 g3
          have HWS := Lib.hid (wantB_succ hkr hkw)
          have HST : Hid (∀ q, q < d + 1 → sumAt d rs ws (k + 1) q = sumAt d rs ws k q + ws[k] * (rowN rs[k]).getD q 0) := fun q hq => sumAt_succ HALL.out hkr hkw hq
          have HSB : Hid (∀ q, q < d + 1 → -21600 ≤ sumAt d rs ws k q ∧ sumAt d rs ws k q ≤ 21600) := fun q hq => by
            have := sumAt_tame HALL.out HTR.out HTWS.out hq k (by omega) (by omega)
            have := HN.out
            omega
          have HTX : Hid (∀ q, -30 ≤ (rowN rs[k]).getD q 0 ∧ (rowN rs[k]).getD q 0 ≤ 30) := getD_tame (HTR.out _ (List.getElem_mem hkr))
          have HT30 : Hid (-30 ≤ ws[k] ∧ ws[k] ≤ 30) := HTWS.out _ (List.getElem_mem hkw)
          obtain ⟨t, ht⟩ : ∃ t, ws[k] = t := ⟨_, rfl⟩
          obtain ⟨R, hR⟩ : ∃ R, rs[k] = R := ⟨_, rfl⟩
          rw [ht] at hcell HWS HST HT30
          rw [hR] at g1 g3 g4 HWS HST HTX hlR
          have HLRK := Lib.hid hlR
          have HG3 := Lib.hid g3
          have HW5 := Lib.hid (fun (w1 : World) (hb : Below w.heap.size w w1) => ((hb.cell (p := ⟨bw, ofw + k, none⟩) hbl).trans hcell : w1.cell? ⟨bw, ofw + k, none⟩ = some (.int .i64 t)))
          have HR5 := Lib.hid (fun (w1 : World) (hb : Below w.heap.size w w1) => (⟨(hb.cell (p := ⟨br, ofr + k * 3, none⟩) hbl2).trans g1, (hb.cell (p := ⟨br, ofr + k * 3 + 1, none⟩) hbl2).trans g2, (hb.cell (p := ⟨br, ofr + k * 3 + 2, none⟩) hbl2).trans g4⟩ : w1.cell? ⟨br, ofr + k * 3, none⟩ = some (.bool R.eq) ∧ w1.cell? ⟨br, ofr + k * 3 + 1, none⟩ = some (.slice oa' d ca') ∧ w1.cell? ⟨br, ofr + k * 3 + 2, none⟩ = some (.int .i64 R.b)))
          have cW := HW5.out wr hbw
          obtain ⟨cE, cL, cB⟩ := HR5.out wr hbw
          obtain ⟨wn, hwn⟩ : ∃ b, wantB rs ws k = b := ⟨_, rfl⟩
          rw [hwn] at HWS ⊢
          have HBLK := Lib.hid hblk
          clear hwn ht hR hlR g1 g2 g3 g4 hcell hcw hbw hblk
          go_upto_region 24 with fail
          go_cut [16] from 154 to 224 (fun v wx => v = .bool (wantB rs ws (k + 1)) ∧ wx = wr)
          case first =>
            cases wn
            · have H2 : Hid (wantB rs ws (k + 1) = false) := by show _ = _; rw [HWS.out]; rfl
              go_wp2_with fail
              go_meet
              exact ⟨by rw [H2.out], rfl⟩
            · by_cases h0 : 0 ≤ t
              · have h0' : decide (0 ≤ t) = true := by simpa using h0
                have H2 : Hid (wantB rs ws (k + 1) = true) := by show _ = _; rw [HWS.out, h0']; rfl
                clear h0
                go_wp2_with fail
                go_meet
                exact ⟨by rw [H2.out], rfl⟩
              · have h0' : decide (0 ≤ t) = false := by simpa using h0
                have H2 : Hid (wantB rs ws (k + 1) = R.eq) := by show _ = _; rw [HWS.out, h0']; rfl
                clear h0
                go_wp2_with fail
                go_meet
                exact ⟨by rw [H2.out], rfl⟩
          case rest =>
            obtain ⟨rfl, hw⟩ := hcut
            have hw' : wr = wc := hw.symm
            clear hw
            subst hw'
            clear cW cE cL cB
            go_wp2_with fail
            go_loopw [18] (fun i wx => ∃ (q : Nat) (csl : Array Value), q ≤ d ∧ i = .int .i64 q ∧ Blk wx w10.heap.size csl 3 ∧ Hid (csl.size = d + 1) ∧ Hid (∀ j, j < d + 1 → csl[j]? = some (.int .i64 (midAt d rs ws k q j))) ∧ Hid (Below (lawW w (d : Int) (some ⟨br, ofr, none⟩) n cap r.eq oa la ca r.b).heap.size (lawW w (d : Int) (some ⟨br, ofr, none⟩) n cap r.eq oa la ca r.b) wx)) (fun i _ => d - (intOf i).toNat)
            case atStart => exact ⟨0, csl, Nat.zero_le _, rfl, HBLK.out, hsz, fun j hj => by rw [midAt_zero]; exact hcs.out j hj, hB⟩
            case round =>
              obtain ⟨q, csi, hq, rfl, hbi, hsi, hci, hBi⟩ := hrel
              clear p0 p1 x0 x1 x2
              obtain ⟨hbw2, ⟨p0, p1⟩, ⟨x0, x1, x2⟩⟩ := (HFF.out wr hBi.out).out
              have cW := HW5.out wr hbw2
              obtain ⟨cE, cL, cB⟩ := HR5.out wr hbw2
              have hqs : q < csi.size := by have := hsi.out; omega
              have cS : wr.cell? ⟨w10.heap.size, q, none⟩ = some (.int .i64 (sumAt d rs ws k q)) := (hbi.cell q).trans ((hci.out q (by omega)).trans (by rw [midAt_self]))
              have fS := hbi.free q
              have HX := HTX.out q
              have HS := HSB.out q (by omega)
              have HN2 := HST.out q (by omega)
              have HT2 := HT30.out
              by_cases hlt2 : q < d
              · have hqa : q < R.a.length := by have := HLRK.out; omega
                obtain ⟨oq, cq, e2, hcq⟩ := HG3.out
                obtain ⟨ba, ofa, rfl, hba, hca⟩ := hcq (by intro e; rw [e] at hqa; simp at hqa)
                simp only [Value.slice.injEq] at e2
                obtain ⟨rfl, he, rfl⟩ := e2
                clear he hcq
                have cA : wr.cell? ⟨ba, ofa + q, none⟩ = some (.int .i64 R.a[q]) := (hbw2.cell (p := ⟨ba, ofa + q, none⟩) hba).trans (hca q hqa)
                rw [rowN_lt hqa] at HX HN2
                obtain ⟨x, hx⟩ : ∃ x, R.a[q] = x := ⟨_, rfl⟩
                obtain ⟨s, hs⟩ : ∃ s, sumAt d rs ws k q = s := ⟨_, rfl⟩
                rw [hx] at cA HX HN2
                rw [hs] at cS HS HN2
                have hp := prod_tame HX HT2
                obtain ⟨p, hpe⟩ : ∃ p, t * x = p := ⟨_, rfl⟩
                rw [hpe] at hp HN2
                have hw1 : IntKind.i64.wrap (t * x) = p := by rw [hpe]; exact IntWalk.i64_in _ (by omega)
                have hw2 : IntKind.i64.wrap (s + p) = s + p := IntWalk.i64_in _ (by omega)
                have HN3 := Lib.hid HN2
                have HBI := Lib.hid hbi
                have HBW2 := Lib.hid hbw2
                clear hx hs hpe hp HX HS HN2 HT2 hca hbi hbw2
                go_upto_region 28 with fail
                go_region
                obtain ⟨csl', hb', hs', hv', ho'⟩ := Blk.of_set HBI.out (.int .i64 (s + p)) hqs
                obtain ⟨H1, H2⟩ := mid_step hsi.out hci.out HN3.out hs' hv' ho'
                have hb2 := hb'.drew
                have HBn := Lib.hid (Below.setCell (p := ⟨w10.heap.size, q, none⟩) hBi.out HS10.out (.int .i64 (s + p))).drew
                clear hs' hv' ho' hb' hw1 hw2 cA cS fS cW cE cL cB
                go_wp2_with fail
                go_roundw
                case rel => exact ⟨q + 1, csl', by omega, by go_num, hb2, H1, H2, HBn.out⟩
                case measure => simp [intOf]; omega
              · obtain rfl : d = q := by omega
                rw [rowN_last HLRK.out] at HX HN2
                obtain ⟨s, hs⟩ : ∃ s, sumAt d rs ws k d = s := ⟨_, rfl⟩
                rw [hs] at cS HS HN2
                have hp := prod_tame HX HT2
                obtain ⟨p, hpe⟩ : ∃ p, t * R.b = p := ⟨_, rfl⟩
                rw [hpe] at hp HN2
                have hw1 : IntKind.i64.wrap (t * R.b) = p := by rw [hpe]; exact IntWalk.i64_in _ (by omega)
                have hw2 : IntKind.i64.wrap (s + p) = s + p := IntWalk.i64_in _ (by omega)
                have hdd : (d : Int) < (d : Int) + 1 := by omega
                have HN3 := Lib.hid HN2
                have HBI := Lib.hid hbi
                have HBW2 := Lib.hid hbw2
                clear hs hpe hp HX HS HN2 HT2 hbi hbw2
                go_upto_region 29 with fail
                go_region
                obtain ⟨csl', hb', hs', hv', ho'⟩ := Blk.of_set HBI.out (.int .i64 (s + p)) hqs
                obtain ⟨H1, H2⟩ := mid_step hsi.out hci.out HN3.out hs' hv' ho'
                have hb2 := hb'.drew
                have HBn := Lib.hid (Below.setCell (p := ⟨w10.heap.size, d, none⟩) hBi.out HS10.out (.int .i64 (s + p))).drew
                clear hs' hv' ho' hb' hw1 hw2 cS fS cW cE cL cB
                go_wp2_with fail
                go_roundw
                case rel =>
                  exact ⟨k + 1, csl', by omega, by go_num, rfl, hb2, H1, mid_last H2, HBn.out⟩
                case measure => simp [intOf]; omega
        · obtain rfl : m = k := by omega
          clear p0 p1 x0 x1 x2
          obtain ⟨hbw, ⟨p0, p1⟩, ⟨x0, x1, x2⟩⟩ := (HFF.out wr hB.out).out
          have HBW := Lib.hid hbw
          have HRM : Hid (rs.length = m) := by have := HLM.out; have := HLW.out; show _ = _; omega
          have hkm : m ≤ rs.length := by have := HRM.out; omega
          have HZ := Lib.hid (rzeroI_any _ _ wr (sums_slice hblk hcs.out HALL.out hkm) (by rw [List.length_take]; omega))
          have HCS := Lib.hid (fun (q : Nat) (hq : q < d + 1) => ((hblk.cell q).trans (hcs.out q hq) : wr.cell? ⟨w10.heap.size, q, none⟩ = some (.int .i64 (sumAt d rs ws m q))))
          have cS := HCS.out d (by omega)
          have hgg := HGG.out
          rw [Int.toNat_natCast] at hgg
          have HANS := Lib.hid (answer_eq HLW.out hgg)
          rw [HRM.out] at HANS
          have hden := HDN.out
          have hden2 := HD30.out
          have hrb := getD_tame HTM.out d
          rw [rowN_last HLR.out] at hrb
          have hPb := prod_tame hrb (⟨by omega, hden2⟩ : -30 ≤ den ∧ den ≤ 30)
          have HS0 := Lib.hid (show sameB d rs ws r den 0 = decide (den * r.b ≤ sumAt d rs ws m d) by rw [sameB, HRM.out])
          obtain ⟨nz, hnz⟩ : ∃ b, allZ ((sumK d rs ws m).take d) = b := ⟨_, rfl⟩
          rw [hnz] at HZ HANS
          obtain ⟨X, hX⟩ : ∃ b, wantB rs ws m = b := ⟨_, rfl⟩
          rw [hX] at HANS ⊢
          obtain ⟨sd, hsd⟩ : ∃ s, sumAt d rs ws m d = s := ⟨_, rfl⟩
          rw [hsd] at cS HANS HS0
          obtain ⟨P, hP⟩ : ∃ z, den * r.b = z := ⟨_, rfl⟩
          rw [hP] at hPb HS0
          have hwP : IntKind.i64.wrap (den * r.b) = P := by rw [hP]; exact IntWalk.i64_in _ (by omega)
          obtain ⟨C, hC⟩ : ∃ b, decide (0 < sd) = b := ⟨_, rfl⟩
          rw [hC] at HANS
          have hdd : (d : Int) < (d : Int) + 1 := by omega
          clear hnz hX hsd hP hPb hgg hrb hkm hblk hcs hsz hbw hden hden2
          go_wp2_with fail
          refine HZ.out.mono ?_
          rintro e1 w12 ⟨rfl, rfl⟩
          cases nz
          all_goals
            go_upto_region 31 with fail
            go_quiet (fail)
            clear hwP hC cS
            go_wp2_with fail
            go_loopw [20, 21] (fun sv i wx => ∃ k q : Nat, k ≤ d ∧ i = .int .i64 k ∧ sv = .bool (sameB d rs ws r den k) ∧ wx = wr.drewN q) (fun _ i _ => d - (intOf i).toNat)
            case atStart => exact ⟨0, _, Nat.zero_le _, rfl, by rw [HS0.out], rfl⟩
            case round =>
              obtain ⟨kk, q, hk2, rfl, rfl, rfl⟩ := hrel
              have hbw := below_drewN' HBW.out q
              by_cases hlt3 : kk < d
              · have hkr : kk < r.a.length := by have := HLR.out; omega
                have HSS := Lib.hid (sameB_succ (d := d) (rs := rs) (ws := ws) (den := den) hkr)
                rw [HRM.out] at HSS
                obtain ⟨o', c', e, hc⟩ := HR.out
                obtain ⟨ba, ofa, rfl, hba, hca⟩ := hc (by intro e; rw [e] at hkr; simp at hkr)
                simp only [Value.slice.injEq] at e
                obtain ⟨rfl, he, rfl⟩ := e
                have hkla : kk < la := by rw [← he] at hkr; omega
                have cA : wr.cell? ⟨ba, ofa + kk, none⟩ = some (.int .i64 r.a[kk]) := (HBW.out.cell (p := ⟨ba, ofa + kk, none⟩) hba).trans (hca kk hkr)
                have cS : wr.cell? ⟨w10.heap.size, kk, none⟩ = some (.int .i64 (sumAt d rs ws m kk)) := HCS.out kk (by omega)
                have hra := HTM.out r.a[kk] (List.mem_append_left _ (List.getElem_mem hkr))
                obtain ⟨z, hz⟩ : ∃ z, r.a[kk] = z := ⟨_, rfl⟩
                obtain ⟨s, hs⟩ : ∃ s, sumAt d rs ws m kk = s := ⟨_, rfl⟩
                obtain ⟨sb, hsb⟩ : ∃ b, sameB d rs ws r den kk = b := ⟨_, rfl⟩
                rw [hz] at cA hra HSS
                rw [hs] at cS HSS
                rw [hsb] at HSS ⊢
                have hpb := prod_tame hra (⟨by have := HDN.out; omega, HD30.out⟩ : -30 ≤ den ∧ den ≤ 30)
                obtain ⟨p, hpe⟩ : ∃ p, den * z = p := ⟨_, rfl⟩
                rw [hpe] at hpb HSS
                have hw1 : IntKind.i64.wrap (den * z) = p := by rw [hpe]; exact IntWalk.i64_in _ (by omega)
                have hi1 : (kk : Int) < (d : Int) + 1 := by omega
                have hi2 : (kk : Int) < (la : Int) := by omega
                have hi3 : (0 : Int) ≤ (kk : Int) := by omega
                clear he hc hca hz hs hsb hpe hpb hra hbw hkr
                cases sb
                · have H2 : Hid (sameB d rs ws r den (kk + 1) = false) := by show _ = _; rw [HSS.out]; rfl
                  go_upto_region 35 with fail
                  go_quiet (fail)
                  go_wp2_with fail
                  go_roundw
                  case rel => exact ⟨kk + 1, _, by omega, by go_num, by rw [H2.out], rfl⟩
                  case measure => simp [intOf]; omega
                · have H2 : Hid (sameB d rs ws r den (kk + 1) = (s == p)) := by show _ = _; rw [HSS.out]; rfl
                  go_upto_region 35 with fail
                  go_quiet (fail)
                  go_wp2_with fail
                  go_roundw
                  case rel => exact ⟨kk + 1, _, by omega, by go_num, by rw [H2.out], rfl⟩
                  case measure => simp [intOf]; omega
              · obtain rfl : d = kk := by omega
                have HBE := Lib.hid hbw
                obtain ⟨Y, hY⟩ : ∃ b, sameB d rs ws r den d = b := ⟨_, rfl⟩
                rw [hY] at HANS ⊢
                have hg := HANS.out
                clear hY hbw HANS HGG
                subst hg
                cases X <;> cases C <;> cases Y
                all_goals
                  go_wp2_with fail
                  go_ret
                  exact ⟨rfl, HBE.out⟩
end Go.Proofs.YtochcofoknfjfaaGreatDoor
namespace Go.Proofs.YtochcofoknfjfaaGreatDoor
open Go Go.RowKit Nt

/-- The law FarkasCheck answers true whatever its input is. -/
theorem law_check (v ra fw : Value) (dim den : Int) (rs : List RowZ) (r : RowZ) (ws : List Int) (a : Nat → Addr) (w : World) (he : ErrW w a) (hv : RowsAt w v rs) (hr : SliceI w ra r.a) (hf : SliceI w fw ws) (hl : rs.length ≤ 140737488355328) (hM0 : ∀ r ∈ rs, r.a.length ≤ 140737488355328) (hden : den ≤ 9223372036854775807) (h64 : I64 ws) :
    Calls Tryz.prog 4 #[.agg #[.int .i64 dim, v], .agg #[.bool r.eq, ra, .int .i64 r.b], fw, .int .i64 den] w fun e w' => e = .returned (.bool true) ∧ Below w.heap.size w w' := by
  cases hw : wideB rs
  · exact lawChk_wide v ra fw dim den rs r ws a w he hv hr hf hl hM0 hw
  · by_cases h1 : 100 < r.a.length
    · exact lawChk_long v ra fw dim den rs r ws a w he hv hr hf hl hM0 hw h1
    · by_cases h2 : 100 < ws.length
      · exact lawChk_many v ra fw dim den rs r ws a w he hv hr hf hl hM0 hw h1 h2
      · rcases rowErr_cases dim rs r with hre | hre | hre
        · by_cases hlw : ws.length = rs.length
          · by_cases hdn : den < 1
            · exact lawChk_den v ra fw dim den rs r ws a w he hv hr hf hl hM0 hw h1 h2 hden h64 hre hlw hdn
            · have hdn' : 1 ≤ den := by omega
              cases hA : largeB r.a
              · cases hB : largeB [r.b]
                · cases hok : okB den ws
                  · exact lawChk_great v ra fw dim den rs r ws a w he hv hr hf hl hM0 hw h1 h2 hden h64 hre hlw hdn' hA hB hok
                  · cases h0 : lowB dim rs 24
                    · exact lawChk_high v ra fw dim den rs r ws a w he hv hr hf hl hM0 hw h1 h2 hden h64 hre hlw hdn' hA hB hok h0
                    · cases h1a : wildB r.a
                      · cases h2a : wildB [r.b]
                        · cases h3a : wildB ws
                          · by_cases h4a : 30 < den
                            · exact lawChk_wildD v ra fw dim den rs r ws a w he hv hr hf hl hM0 hw h1 h2 hden h64 hre hlw hdn' hA hB hok h0 h1a h2a h3a h4a
                            · obtain ⟨d, rfl⟩ : ∃ d : Nat, dim = d := ⟨dim.toNat, by have := (polyErr_zero (rowErr_zero hre).1).1; omega⟩
                              exact lawChk_main v ra fw d den rs r ws a w he hv hr hf hl hM0 hw h1 h2 hden h64 hre hlw hdn' hA hB hok h0 h1a h2a h3a (by omega)
                          · exact lawChk_wildW v ra fw dim den rs r ws a w he hv hr hf hl hM0 hw h1 h2 hden h64 hre hlw hdn' hA hB hok h0 h1a h2a h3a
                        · exact lawChk_wildB v ra fw dim den rs r ws a w he hv hr hf hl hM0 hw h1 h2 hden h64 hre hlw hdn' hA hB hok h0 h1a h2a
                      · exact lawChk_wildA v ra fw dim den rs r ws a w he hv hr hf hl hM0 hw h1 h2 hden h64 hre hlw hdn' hA hB hok h0 h1a
                · exact lawChk_bigB v ra fw dim den rs r ws a w he hv hr hf hl hM0 hw h1 h2 hden h64 hre hlw hdn' hA hB
              · exact lawChk_bigA v ra fw dim den rs r ws a w he hv hr hf hl hM0 hw h1 h2 hden h64 hre hlw hdn' hA
          · exact lawChk_len v ra fw dim den rs r ws a w he hv hr hf hl hM0 hw h1 h2 hden h64 hre hlw
        · exact lawChk_err2 v ra fw dim den rs r ws a w he hv hr hf hl hM0 hw h1 h2 hden h64 hre
        · exact lawChk_err3 v ra fw dim den rs r ws a w he hv hr hf hl hM0 hw h1 h2 hden h64 hre
end Go.Proofs.YtochcofoknfjfaaGreatDoor
