/- Walk: maker.cut by a row whose product with the first line is above 0. -/
import Derived.Test.YtggoncneinlpgaaGreatDoorJH
import Derived.Deep.AppendLies
import Derived.Deep.DeepCutAuto
namespace Go.Proofs.YtggoncneinlpgaaGreatDoor
open Go Go.RowKit Nt

def CutPost (w0 w w' : World) (bm : Nat) (vD0 : Value) (a l : List Int) (R L' D : List (List Int)) : Prop :=
  ∃ U vR vL vD xD, MakS w0 w' bm U vR vL vR vL vD (R.map (flatZ a l) ++ [l]) (L'.map (flatZ a l)) (D ++ [a]) xD ∧ (∀ g, vD.ownBlock = some g → g < U) ∧ (L' = [] → vL = .slice none 0 0) ∧
    Chg (bm :: vD0.ownBlock.toList) w w' ∧ ∀ g, vD.ownBlock = some g → vD0.ownBlock = some g ∨ w.heap.size ≤ g

/-- Behind the first append of a cut. -/
def CutA (w0 w : World) (bm ba U : Nat) (va vR vL vD : Value) (a : List Int) (R L D : List (List Int)) (wx : World) : Prop :=
  ∃ vD' xD', MakS w0 wx bm U vR vL vR vL vD' R L (D ++ [a]) xD' ∧ Blk wx ba #[va] 47 ∧ bm < ba ∧ Chg (bm :: vD.ownBlock.toList) w wx ∧ ∀ g, vD'.ownBlock = some g → vD.ownBlock = some g ∨ w.heap.size ≤ g

set_option maxRecDepth 100000 in
set_option maxHeartbeats 4000000 in
theorem cut_any (w0 w : World) (bm U B : Nat) (va vR vL vD : Value) (a l : List Int) (R L' D : List (List Int)) (xD pa : List Value) (h : MakS w0 w bm U vR vL vR vL vD R (l :: L') D xD) (hsep : ∀ g, vD.ownBlock = some g → g < U) (ha : RowP w0 B va a pa) (hok : CutOK a l R L' D) :
    Calls Tryz.prog 52 #[.pointer (some ⟨bm, 0, none⟩), va, .bool false] w fun e w' => e = .returned (.tuple #[]) ∧ CutPost w0 w w' bm vD a l R L' D := by
  obtain ⟨i0, hi, hzz⟩ := Option.map_eq_some_iff.1 infoRw
  simp only [Prod.mk.injEq] at hzz
  obtain ⟨hz0, hz1, hz2⟩ := hzz
  have HI := Lib.hid hi
  have HZ0 := Lib.hid hz0
  have HZ1 := Lib.hid hz1
  have HZ2 := Lib.hid hz2
  obtain ⟨i1, hi', hzz'⟩ := Option.map_eq_some_iff.1 infoRay
  simp only [Prod.mk.injEq] at hzz'
  obtain ⟨hz0', hz1', hz2'⟩ := hzz'
  have HI1 := Lib.hid hi'
  have HY0 := Lib.hid hz0'
  have HY1 := Lib.hid hz1'
  have HY2 := Lib.hid hz2'
  clear hi hz0 hz1 hz2 hi' hz0' hz1' hz2'
  obtain ⟨gL, cL, rfl, x1⟩ := lines_ready h (Below.refl _ _) (by simp)
  obtain ⟨oR, cR, rfl, x2⟩ := rays_ready h (Below.refl _ _)
  have HM := Lib.hid h
  have HSEP := Lib.hid hsep
  have HA := Lib.hid ha
  have HOK := Lib.hid hok
  have hbm := h.blk.lt
  obtain ⟨oa, ca, rfl, x3, x4⟩ := ha.form
  have q0 : w.cell? ⟨bm, 0, none⟩ = some (.slice oR R.length cR) := h.blk.cell 0
  have q1 : w.cell? ⟨bm, 1, none⟩ = some (.slice (some ⟨gL, 0, none⟩) (l :: L').length cL) := h.blk.cell 1
  have q2 : w.cell? ⟨bm, 2, none⟩ = some vD := h.blk.cell 2
  have f2 := h.blk.free 2
  have hnD : D.length ≤ 2 := hok.2.2.1
  have hl1 : (l :: L').length = L'.length + 1 := rfl
  rw [hl1] at q1 HM
  have hnL := hok.2.2.2.2.1
  have hnR := hok.2.2.2.2.2
  obtain ⟨nL, hnL'⟩ : ∃ n, L'.length = n := ⟨_, rfl⟩
  obtain ⟨nR, hnR'⟩ : ∃ n, R.length = n := ⟨_, rfl⟩
  rw [hnL'] at q1 HM hnL
  rw [hnR'] at q0 HM hnR
  have HNL := Lib.hid hnL'
  have HNR := Lib.hid hnR'
  obtain ⟨nD, hnD'⟩ : ∃ n, D.length = n := ⟨_, rfl⟩
  rw [hnD'] at hnD
  have HND := Lib.hid hnD'
  obtain ⟨na, hna⟩ : ∃ n, a.length = n := ⟨_, rfl⟩
  rw [hna] at HA
  rw [hna]
  have HNA := Lib.hid hna
  clear h hsep ha hok hl1 hnD' hna x1 x2 x3 x4 hnL' hnR'
  go_enter Tryz.func52, Tryz.ntmps52
  go_wp2_with fail
  go_quiet (fail)
  go_upto_region 2 with fail
  have hb1 : Below w.heap.size w ((w.alloc (.cells #[.slice oa na ca] 47)).drewN nq) := below_drewN' ((Below.refl _ _).alloc (Nat.le_refl _) _) nq
  have HM1 := Lib.hid (HM.out.below hb1)
  have HB1W := Lib.hid hb1
  have HBA := Lib.hid (show Blk ((w.alloc (.cells #[.slice oa na ca] 47)).drewN nq) w.heap.size #[.slice oa na ca] 47 from Blk.new w _ _)
  have hba : bm < w.heap.size := hbm
  have hvd : ∀ g, vD.ownBlock = some g → g < w.heap.size := fun g e => (HM.out.done.lt g e).2
  have hsz : w.heap.size < ((w.alloc (.cells #[.slice oa na ca] 47)).drewN nq).heap.size := by show _ < (w.alloc _).heap.size; simp
  obtain ⟨w1, hw1⟩ : ∃ x, (w.alloc (.cells #[.slice oa na ca] 47)).drewN nq = x := ⟨_, rfl⟩
  rw [hw1] at HM1 HBA HB1W hsz ⊢
  clear hw1 hb1 HM q0 q1 q2 f2
  obtain ⟨ba, hba'⟩ : ∃ x, w.heap.size = x := ⟨_, rfl⟩
  rw [hba'] at HBA hba hsz hvd ⊢
  have HVD := Lib.hid hvd
  clear hba' hbm hvd
  go_cut [] (fun wx => CutA w0 w bm ba U (.slice oa na ca) (.slice oR nR cR) (.slice (some ⟨gL, 0, none⟩) (nL + 1) cL) vD a R (l :: L') D wx)
  case first =>
    have hbm : bm < w1.heap.size := by omega
    have q2 : w1.cell? ⟨bm, 2, none⟩ = some vD := HM1.out.blk.cell 2
    have q4 : w1.cell? ⟨ba, 0, none⟩ = some (.slice oa na ca) := HBA.out.cell 0
    have hown := HM1.out.done
    rw [HND.out] at hown
    have HOWN := Lib.hid hown
    have HFAR : ∀ w2, World.grownBy (w1.alloc (.cells #[.slice oa na ca] 47)).drew w2 vD.ownBlock → Hid (w2.cell? ⟨bm, 2, none⟩ = some vD ∧ w2.frozen? ⟨bm, 2, none⟩ = false) := fun w2 hg => by
      have hb := ((HM1.out.blk.alloc (.cells #[.slice oa na ca] 47)).drew.grownT hg (fun e => by have := (HOWN.out.lt bm e.symm).1; omega))
      exact ⟨hb.cell 2, hb.free 2⟩
    have HH := Lib.hid HFAR
    have HE : ∀ gg cap1 w2, w2.ownsRow (bm + 1) 47 1 (.slice (some ⟨gg, 0, none⟩) (nD + 1) cap1) (nD + 1) (xD ++ [.slice oa na ca]) → World.grownBy (w1.alloc (.cells #[.slice oa na ca] 47)).drew w2 vD.ownBlock → (vD.ownBlock = some gg ∨ gg = w1.heap.size + 1) → Hid (CutA w0 w bm ba U (.slice oa na ca) (.slice oR nR cR) (.slice (some ⟨gL, 0, none⟩) (nL + 1) cL) vD a R (l :: L') D (w2.setCell ⟨bm, 2, none⟩ (.slice (some ⟨gg, 0, none⟩) (nD + 1) cap1))) := fun gg cap1 w2 ho hg hat => by
      refine ⟨_, _, HM1.out.push HSEP.out HA.out (by rw [HND.out]; exact ho) (grown_drew hg), ?_, hba, ?_, fun g e => ?_⟩
      · exact ((HBA.out.alloc _).grownT (grown_drew hg) (fun e => by have := HVD.out ba e.symm; omega)).set_other (by simp; omega) _
      · exact ((((Chg.of_below HB1W.out (Nat.le_refl _) _).alloc _).grownM (grown_drew hg) (fun g e => by rw [e]; simp)).setCell (.inl (by simp)) _)
      · simp only [Value.ownBlock, Option.some.injEq] at e
        subst e
        rcases hat with h | h
        · exact .inl h
        · right; have := HB1W.out.size; omega
    have HEE := Lib.hid HE
    clear hown HFAR HE
    go_region_law ((refine step_append_lies _ (by rfl) (.tmp 37) (.tmp 39) 71 (by rfl) (bm + 1) 47 i0 (.slice none 0 0) 1 24 Tryz.underlying71 HI.out HZ0.out HZ1.out HZ2.out rfl (by decide) vD nD xD (by rfl) ((HOWN.out.alloc _).drew) ⟨w1.heap.size, 0, none⟩ 1 1 [.slice oa na ca] (by rfl) (by rfl) (World.news_of_block (cs := #[.slice oa na ca]) (t := 47) (fr := (0, 0)) (heap_new w1 _)) (by intro u hu; simp at hu; subst hu; rfl) (by omega) (by unfold maxLen; omega) (by omega) (by simp; omega) (w1.heap.size + 1) (by simp) ?_; intro gg cap1 w2 hown2 hgrow hat hlt2; obtain ⟨r1, r2⟩ := (HH.out w2 hgrow).out))
    all_goals
      have HX := HEE.out gg cap1 w2 hown2 hgrow hat
      clear hown2 hgrow hat hlt2 r1 r2
      go_wp2_with fail
      go_meet
      exact HX.out
  case rest =>
    obtain ⟨vD', xD', hm, hba, hlt, hcg, hvn⟩ := hcut
    have HVN := Lib.hid hvn
    clear hvn
    have q0 : wc.cell? ⟨bm, 0, none⟩ = some (.slice oR nR cR) := hm.blk.cell 0
    have q1 : wc.cell? ⟨bm, 1, none⟩ = some (.slice (some ⟨gL, 0, none⟩) (nL + 1) cL) := hm.blk.cell 1
    have f0 := hm.blk.free 0
    have f1 := hm.blk.free 1
    have hc3 : Chg [bm] wc ((wc.setCell ⟨bm, 0, none⟩ (.slice none 0 0)).setCell ⟨bm, 1, none⟩ (.slice none 0 0)) := ((Chg.refl _ _).setCell (.inl (by simp)) _).setCell (.inl (by simp)) _
    have HM3 := Lib.hid (hm.turn (cR' := .slice none 0 0) (cL' := .slice none 0 0) hc3 (by simpa using (hm.blk.set 0 (.slice none 0 0)).set 1 (.slice none 0 0)))
    have HBA3 := Lib.hid (hba.chg hc3 (by simp; omega))
    have HLT := Lib.hid hlt
    have HCG := Lib.hid (hcg.trans (hc3.mono (T := bm :: vD.ownBlock.toList) (by simp)))
    clear hc3 hm hba hlt hcg
    go_upto_region 4 with fail
    obtain ⟨w3, hw3⟩ : ∃ x, (wc.setCell ⟨bm, 0, none⟩ (.slice none 0 0)).setCell ⟨bm, 1, none⟩ (.slice none 0 0) = x := ⟨_, rfl⟩
    rw [hw3] at HM3 HBA3 HCG ⊢
    clear hw3 q0 q1 f0 f1
    obtain ⟨gL', cL', e0, hr0⟩ := lines_ready HM3.out (Below.refl _ _) (by simp)
    simp only [Value.slice.injEq, Option.some.injEq, Addr.mk.injEq, and_true] at e0
    obtain ⟨rfl, e1, rfl⟩ := e0
    obtain ⟨rv0, ps0, k0, hl0, hn0⟩ := hr0 w3 (Chg.refl _ _) 0 (by simp)
    simp only [List.getElem_cons_zero] at hl0 hn0
    obtain ⟨o0, c0, rfl⟩ := rowAt_form ⟨ps0, hl0⟩
    have hok0 := HOK.out.2.1 l (by simp)
    obtain ⟨g1, g2, g3, g4, g5, g6, g7, g8⟩ := hok0
    rw [← g1, HNA.out] at k0 hl0
    have hbm0 := HM3.out.bm0
    have hbw := HM3.out.bw
    have ha3 := HA.out.below hbw hbm0
    have hap := HA.out.apart hl0 (by omega) g1
    have hpos := HOK.out.1
    have HIX := Lib.hid (indexR_zero gL ba (nL + 1) cL _ _ a l pa ps0 B (bm + 1) w3 (by omega) (by omega) k0 (HBA3.out.cell 0) ha3 hl0 g1 hap g4 g5 (by omega) (by omega))
    have HDOT := Lib.hid (fun wx (hb : Below w3.heap.size w3 wx) => edot_any _ _ a l pa ps0 B (bm + 1) wx (ha3.below hb (Nat.le_refl _)) (hl0.below hb (Nat.le_refl _)) g1 hap g4 g5 (by omega))
    have hsg : (dotZ a l).sign = 1 := Int.sign_eq_one_of_pos hpos
    have HL0 := Lib.hid hl0
    have HSG := Lib.hid hsg
    have HK0 := Lib.hid k0
    have hba3 := HBA3.out.lt
    have hgl3 := cell_ltJ k0
    simp only at hgl3
    clear hr0 hn0 g1 g2 g3 g4 g5 g6 g7 g8 hbm0 hbw ha3 hap hpos hsg hl0 k0 e1
    go_wp2_with fail
    refine HIX.out.mono ?_
    rintro e w4 ⟨rfl, hb4⟩
    have HB4 := Lib.hid hb4
    have k4 := (hb4.cell (p := ⟨gL, 0, none⟩) hgl3).trans HK0.out
    have a4 := (hb4.cell (p := ⟨ba, 0, none⟩) hba3).trans (HBA3.out.cell 0)
    have hba4 := Nat.lt_of_lt_of_le hba3 hb4.size
    clear hb4
    have hB4' : Below w3.heap.size w3 (w4.alloc (.cells #[.slice o0 na c0] 47)) := HB4.out.alloc HB4.out.size _
    have HD5 := Lib.hid (HDOT.out _ hB4')
    clear hB4'
    go_wp2_with fail
    refine HD5.out.mono ?_
    rintro e w5 ⟨b5, S5, rfl, hf5, hS5, hb5⟩
    have HG5 := Lib.hid (sign_any b5 _ S5 w5 hf5)
    rw [HSG.out] at HG5
    have hb45 : Below w4.heap.size w4 w5 := ((Below.refl w4.heap.size w4).alloc (Nat.le_refl _) _).trans (hb5.mono (by simp))
    have a5 := (hb45.cell (p := ⟨ba, 0, none⟩) hba4).trans a4
    have l5 : w5.cell? ⟨w4.heap.size, 0, none⟩ = some (.slice o0 na c0) := (hb5.cell (p := ⟨w4.heap.size, 0, none⟩) (by simp)).trans (by simp)
    have HB5 := Lib.hid (HB4.out.trans (hb45.mono HB4.out.size))
    have HD6 := Lib.hid (HDOT.out w5 HB5.out)
    have hbl5 : w4.heap.size < w5.heap.size := by have := hb5.size; simp at this; omega
    clear hf5 hS5 hb5 hb45 HD5 a4 k4
    go_wp2_with fail
    refine HG5.out.mono ?_
    rintro e w6 ⟨rfl, rfl⟩
    go_wp2_with fail
    refine HD6.out.mono ?_
    rintro e w6 ⟨bD, SD, rfl, hf6, hS6, hb6⟩
    obtain ⟨bl, hbl⟩ : ∃ x, w4.heap.size = x := ⟨_, rfl⟩
    rw [hbl] at l5 hbl5 ⊢
    have HBL := Lib.hid (show w3.heap.size ≤ bl by rw [← hbl]; exact HB4.out.size)
    clear hbl hba4 HG5 HD6
    have hb6S : Below w6.heap.size w6 (w6.alloc (.cells #[.pointer (some ⟨bD, 0, none⟩)] 49)) := (Below.refl _ _).alloc (Nat.le_refl _) _
    have hb5S := hb6.trans (hb6S.mono hb6.size)
    have hb3S := HB5.out.trans (hb5S.mono HB5.out.size)
    have hba5 : ba < w5.heap.size := Nat.lt_of_lt_of_le hba3 HB5.out.size
    have hF : FlatS w0 (w6.alloc (.cells #[.pointer (some ⟨bD, 0, none⟩)] 49)) bm ba bl w6.heap.size bD (.slice oa na ca) (.slice o0 na c0) a l := by
      have hbm3 := HM3.out.blk.lt
      have h56 := hb6.size
      have h35 := HB5.out.size
      have hbl := HBL.out
      refine ⟨HM3.out.bw.trans (hb3S.mono (Nat.le_of_lt hbm3)), HM3.out.bm0, HLT.out, by omega, by omega, (hb5S.cell (p := ⟨ba, 0, none⟩) hba5).trans a5, (hb5S.cell (p := ⟨bl, 0, none⟩) hbl5).trans l5, by simp, ⟨B, pa, HA.out⟩, ⟨ps0, HL0.out.below hb3S (Nat.le_refl _)⟩, SD, hf6.below hb6S hf6.lt, fun k hk => ?_⟩
      have := hS6 k hk
      omega
    have hbD : w3.heap.size ≤ bD := Nat.le_trans HB5.out.size (hS6 bD hf6.head)
    obtain ⟨gL2, cL2, e2, HFL⟩ := lines_flat hF HM3.out hb3S hbD (by simp) (fun r hr => HOK.out.2.1 r (by
      rcases List.mem_cons.1 hr with rfl | hr
      · exact List.mem_cons_self ..
      · exact List.mem_cons_of_mem _ (List.mem_append_left _ hr)))
    simp only [Value.slice.injEq, Option.some.injEq, Addr.mk.injEq, and_true] at e2
    obtain ⟨rfl, e3, rfl⟩ := e2
    obtain ⟨oR2, cR2, e4, HFR⟩ := rays_flat hF HM3.out hb3S hbD (fun r hr => HOK.out.2.1 r (List.mem_cons_of_mem _ (List.mem_append_right _ hr)))
    simp only [Value.slice.injEq] at e4
    obtain ⟨rfl, e5, rfl⟩ := e4
    rw [HNA.out] at HFL HFR
    have HMS := Lib.hid (HM3.out.below hb3S)
    have HCGS := Lib.hid (HCG.out.trans (Chg.of_below hb3S (Nat.le_refl _) _))
    have HFL := Lib.hid HFL
    have HFR := Lib.hid HFR
    have HCI := Lib.hid (CutI.start HMS.out.blk)
    have lS : (w6.alloc (.cells #[.pointer (some ⟨bD, 0, none⟩)] 49)).cell? ⟨bl, 0, none⟩ = some (.slice o0 na c0) := hF.cl
    have HLS := Lib.hid lS
    have HRL := Lib.hid hF.rl
    have HBLM := Lib.hid hF.ltl
    clear hf6 hS6 hb6 hb6S hb5S hb3S hba5 hF hbD e3 e5 a5 l5 lS
    go_wp2_with fail
    obtain ⟨wS, hwS⟩ : ∃ x, w6.alloc (.cells #[.pointer (some ⟨bD, 0, none⟩)] 49) = x := ⟨_, rfl⟩
    obtain ⟨bd, hbd⟩ : ∃ x, w6.heap.size = x := ⟨_, rfl⟩
    rw [hwS] at HFL HFR HMS HCI HLS HRL HCGS ⊢
    rw [hbd] at HFL HFR ⊢
    have hbmS := HMS.out.blk.lt
    clear hwS hbd HCG HDOT HM1 HM3 HBA3 HIX HB4 HB5 HL0 HK0 HBA HVD HSEP hbl5
    go_loopw [71] (fun i wr => ∃ (k : Nat) (cLc : Value) (xs : List Value), k ≤ nL + 1 ∧ i = .int .i64 k ∧ Hid (CutI wS wr bm vD' (.slice none 0 0) cLc [] ((L'.take (k - 1)).map (flatZ a l)) [] xs)) (fun i _ => nL + 1 - (intOf i).toNat)
    case atStart => exact ⟨0, _, [], Nat.zero_le _, rfl, HCI.out⟩
    case round =>
      obtain ⟨k, cLc, xs, hk, rfl, hI⟩ := hrel
      by_cases hlt : k < nL + 1
      · obtain ⟨oc, cc, hX⟩ := HFL.out k (by rw [List.length_cons, HNL.out]; exact hlt)
        have hcell := (hX wr hI.out.chg).1
        have HC := Lib.hid ((hX wr.drew hI.out.chg.drew).2)
        clear hX
        by_cases hk0 : k = 0
        · subst hk0
          have HI0 : Hid (CutI wS wr bm vD' (.slice none 0 0) cLc [] ((L'.take (1 - 1)).map (flatZ a l)) [] xs) := hI
          clear hI HC
          go_wp2_with fail
          go_roundw
          case rel => exact ⟨1, cLc, xs, by omega, rfl, HI0⟩
          case measure => simp [intOf]
        · obtain ⟨j, rfl⟩ : ∃ j, k = j + 1 := ⟨k - 1, by omega⟩
          have hj : j < L'.length := by have := HNL.out; omega
          simp only [List.getElem_cons_succ] at HC
          have hne0 : (((j : Int) + 1) != 0) = true := by simp; omega
          have hne1 : ((((j + 1 : Nat) : Int)) != 0) = true := by simp; omega
          have hlm : ((L'.take j).map (flatZ a l)).length = j := by rw [List.length_map, List.length_take]; omega
          have HT : (L'.take (j + 1 + 1 - 1)).map (flatZ a l) = (L'.take (j + 1 - 1)).map (flatZ a l) ++ [flatZ a l L'[j]] := by
            show (L'.take (j + 1)).map (flatZ a l) = (L'.take j).map (flatZ a l) ++ [flatZ a l L'[j]]
            rw [List.take_succ_eq_append_getElem hj, List.map_append]
            rfl
          obtain ⟨f, hf⟩ : ∃ f, flatZ a l L'[j] = f := ⟨_, rfl⟩
          rw [hf] at HC HT
          have HT := Lib.hid HT
          have hI' : CutI wS wr bm vD' (.slice none 0 0) cLc [] ((L'.take (j + 1 - 1)).map (flatZ a l)) [] xs := hI.out
          have HI2 := Lib.hid hI'
          have HLM := Lib.hid hlm
          have c1 : wr.cell? ⟨bm, 1, none⟩ = some cLc := hI'.blk.cell 1
          have hbmr : bm < wr.heap.size := hI'.blk.lt
          have hsr : wS.heap.size ≤ wr.heap.size := hI'.chg.size
          have HK4 := Lib.hid (fun (w4 : World) (hb : Below wr.heap.size wr w4) => (⟨(hI'.below hb).blk.cell 1, (hI'.below hb).blk.lt, Nat.le_trans hsr hb.size⟩ : w4.cell? ⟨bm, 1, none⟩ = some cLc ∧ bm < w4.heap.size ∧ wS.heap.size ≤ w4.heap.size))
          have HO4 := Lib.hid (fun (w4 : World) (hb : Below wr.heap.size wr w4) => (by have := (hI'.below hb).lines.own; rw [show ((L'.take (j + 1 - 1)).map (flatZ a l)).length = j from hlm] at this; exact this : w4.ownsRow wS.heap.size 47 1 cLc j xs))
          have HFAR := Lib.hid (fun (w4 w5 : World) (o : Obj) (hb : Below wr.heap.size wr w4) (hg : (w4.alloc o).grownBy w5 cLc.ownBlock) => (by
            have h1 := hI'.below hb
            have h2 := (h1.blk.alloc o).grownT hg (fun e => by have := (h1.lines.own.lt bm e.symm).1; omega)
            exact ⟨h2.cell 1, h2.free 1⟩ : w5.cell? ⟨bm, 1, none⟩ = some cLc ∧ w5.frozen? ⟨bm, 1, none⟩ = false))
          clear hk0 hI hI' hlm hf
          go_wp2_with fail
          go_region_law (first | (have hq := hown4; refine step_append_lies _ (by rfl) (.tmp 83) (.tmp 87) 71 (by rfl) wS.heap.size 47 i0 (.slice none 0 0) 1 24 Tryz.underlying71 HI.out HZ0.out HZ1.out HZ2.out rfl (by decide) cLc j xs (by rfl) (hq.alloc _) ⟨w4.heap.size, 0, none⟩ 1 1 [.slice o4 f.length c4] (by rfl) (by rfl) (World.news_of_block (cs := #[.slice o4 f.length c4]) (t := 47) (fr := (0, 0)) (heap_new w4 _)) (by intro u hu; simp at hu; subst hu; rfl) (by omega) (by unfold maxLen; omega) (by omega) (by simp; omega) (w4.heap.size + 1) (by simp) ?_; intro gg cap1 w5 hown5 hgrow hat hlt5; clear hq; obtain ⟨r1, r2⟩ := HFAR.out w4 w5 _ hb4' hgrow) | (go_simp; go_at_call 79; refine HC.out.mono ?_; rintro e1 w4 ⟨v4, rfl, hr4, hb4⟩; obtain ⟨o4, c4, rfl⟩ := rowAt_form hr4; have hb4' : Below wr.heap.size wr w4 := (Below.refl wr.heap.size wr).drew.trans hb4; obtain ⟨k1, k2, k3⟩ := HK4.out w4 hb4'; have hown4 := HO4.out w4 hb4'))
          all_goals
            have HIN := Lib.hid (HI2.out.line hb4' hr4 (by rw [show ((L'.take (j + 1 - 1)).map (flatZ a l)).length = j from HLM.out]; exact hown5) hgrow)
            rw [← HT.out] at HIN
            clear hown5 hgrow hat hlt5 r1 r2 hb4' hr4 hb4 k1 k2 k3 hown4
            go_wp2_with fail
            go_roundw
            case rel => exact ⟨j + 1 + 1, _, _, by omega, by go_num, HIN⟩
            case measure => simp [intOf]; omega
      · have HI0 : Hid (CutI wS wr bm vD' (.slice none 0 0) cLc [] (L'.map (flatZ a l)) [] xs) := by
          have h := hI.out
          rw [show k - 1 = nL by omega, List.take_of_length_le (by have := HNL.out; omega)] at h
          exact h
        have hk2 : decide ((k : Int) < (nL : Int) + 1) = false := by simp; omega
        obtain ⟨k1, hk1⟩ : ∃ x, k = x := ⟨_, rfl⟩
        rw [hk1] at hk2 ⊢
        clear hI HCI hk hlt hk1
        go_wp2_with fail
        go_loopw [94] (fun i wx => ∃ (k : Nat) (cRc : Value) (ys : List Value), k ≤ nR ∧ i = .int .i64 k ∧ Hid (CutI wS wx bm vD' cRc cLc ((R.take k).map (flatZ a l)) (L'.map (flatZ a l)) ys xs)) (fun i _ => nR - (intOf i).toNat)
        case atStart => exact ⟨0, _, [], Nat.zero_le _, rfl, HI0.out⟩
        case round =>
          obtain ⟨k, cRc, ys, hk, rfl, hI⟩ := hrel
          by_cases hlt : k < nR
          · obtain ⟨gR, oc, cc, pv, eR, hX⟩ := HFR.out k (by rw [HNR.out]; exact hlt)
            subst eR
            have hkR : k < R.length := by have := HNR.out; omega
            have hI' := hI.out
            obtain ⟨p0, p1, x5⟩ := hX wr hI'.chg
            have hbw : Below wr.heap.size wr (wr.alloc (.cells #[.slice oc na cc, .pointer pv] 106)) := (Below.refl _ _).alloc (Nat.le_refl _) _
            have hIb := hI'.below hbw
            have HC := Lib.hid ((hX _ hIb.chg.drew).2.2)
            have HIB := Lib.hid hIb
            have HT : (R.take (k + 1)).map (flatZ a l) = (R.take k).map (flatZ a l) ++ [flatZ a l R[k]] := by
              rw [List.take_succ_eq_append_getElem hkR, List.map_append]
              rfl
            have hOf : OfOK (D ++ [a]) (flatZ a l R[k]) := HOK.out.2.2.2.1 _ (List.mem_cons_of_mem _ (List.mem_map.2 ⟨R[k], List.getElem_mem hkR, rfl⟩))
            have HCB := Lib.hid (show (wr.alloc (.cells #[.slice oc na cc, .pointer pv] 106)).cell? ⟨wr.heap.size, 0, none⟩ = some (.slice oc na cc) by simp)
            obtain ⟨f, hf⟩ : ∃ f, flatZ a l R[k] = f := ⟨_, rfl⟩
            rw [hf] at HC HT hOf
            have HT := Lib.hid HT
            have HOF := Lib.hid hOf
            clear hX x5 hI' hbw hIb hf hOf hI
            go_upto_region 20 with fail
            clear p0 p1
            obtain ⟨wb, hwb⟩ : ∃ x, wr.alloc (.cells #[.slice oc na cc, .pointer pv] 106) = x := ⟨_, rfl⟩
            rw [hwb] at HIB HC HCB ⊢
            obtain ⟨br, hbr⟩ : ∃ x, wr.heap.size = x := ⟨_, rfl⟩
            rw [hbr] at HCB ⊢
            clear hwb hbr
            have cb : wb.cell? ⟨br, 0, none⟩ = some (.slice oc na cc) := HCB.out
            have hI' := HIB.out
            have hlm : ((R.take k).map (flatZ a l)).length = k := by rw [List.length_map, List.length_take]; omega
            have HLM := Lib.hid hlm
            have cm : wb.cell? ⟨bm, 0, none⟩ = some cRc := hI'.blk.cell 0
            have hbmb : bm < wb.heap.size := hI'.blk.lt
            have hbrb : br < wb.heap.size := cell_ltJ cb
            have hsr : wS.heap.size ≤ wb.heap.size := hI'.chg.size
            have HK4 := Lib.hid (fun (w4 : World) (hb : Below wb.heap.size wb w4) => (⟨(hI'.below hb).blk.cell 0, (hI'.below hb).blk.lt, Nat.le_trans hsr hb.size⟩ : w4.cell? ⟨bm, 0, none⟩ = some cRc ∧ bm < w4.heap.size ∧ wS.heap.size ≤ w4.heap.size))
            have HO4 := Lib.hid (fun (w4 : World) (hb : Below wb.heap.size wb w4) => (by have := (hI'.below hb).rown; rw [hlm] at this; exact this : w4.ownsRow wS.heap.size 106 2 cRc k ys))
            have HOFR := Lib.hid (fun (w4 : World) (v4 : Value) (hb : Below wb.heap.size wb w4) (hr : RowAt w4 (bm + 1) v4 f) => of_ready (HMS.out.turn (hI'.below hb).chg (hI'.below hb).blk) hr (by simp) (by have := HND.out; simp; omega) HOF.out)
            have HFAR := Lib.hid (fun (w4 w5 : World) (o : Obj) (hb : Below wb.heap.size wb w4) (hg : (w4.alloc o).grownBy w5 cRc.ownBlock) => (by
              have h1 := hI'.below hb
              have h2 := (h1.blk.alloc o).grownT hg (fun e => by have := (h1.rown.lt bm e.symm).1; omega)
              exact ⟨h2.cell 0, h2.free 0⟩ : w5.cell? ⟨bm, 0, none⟩ = some cRc ∧ w5.frozen? ⟨bm, 0, none⟩ = false))
            clear hI' hlm
            go_region_law (first | (have hq := hown5; refine step_append_lies _ (by rfl) (.tmp 102) (.tmp 109) 99 (by rfl) wS.heap.size 106 i1 (.agg #[.slice none 0 0, .pointer none]) 2 32 Tryz.underlying99 HI1.out HY0.out HY1.out HY2.out rfl (by decide) cRc k ys (by rfl) (hq.alloc _) ⟨w5.heap.size, 0, none⟩ 1 1 [.slice o4 f.length c4, .pointer (some pv5)] (by rfl) (by rfl) (World.news_of_block (cs := #[.slice o4 f.length c4, .pointer (some pv5)]) (t := 106) (fr := (0, 0)) (heap_new w5 _)) (by intro u hu; simp at hu; rcases hu with rfl | rfl <;> rfl) (by omega) (by unfold maxLen; omega) (by omega) (by simp; omega) (w5.heap.size + 1) (by simp) ?_; intro gg cap1 w6 hown6 hgrow hat hlt6; clear hq; obtain ⟨r1, r2⟩ := HFAR.out w5 w6 _ hb5' hgrow) | (go_simp; first | (go_at_call 79; refine HC.out.mono ?_; rintro e1 w4 ⟨v4, rfl, hr4, hb4⟩; obtain ⟨o4, c4, rfl⟩ := rowAt_form hr4; have hb4' : Below wb.heap.size wb w4 := (Below.refl wb.heap.size wb).drew.trans hb4; obtain ⟨k1, k2, k3⟩ := HK4.out w4 hb4'; have hr4' := hr4.mono (B1 := bm + 1) hbmb) | (go_at_call 82; refine (HOFR.out w4 _ hb4' hr4').mono ?_; rintro e2 w5 ⟨pv5, rfl, hb5⟩; have hb5' := hb4'.trans (hb5.mono hb4'.size); obtain ⟨k4, k5, k6⟩ := HK4.out w5 hb5'; have hown5 := HO4.out w5 hb5'; have hr5 := hr4'.below hb5 (Nat.le_refl _))))
            all_goals
              have HIN := Lib.hid (HIB.out.ray hb5' hr5 (by rw [HLM.out]; exact hown6) hgrow)
              rw [← HT.out] at HIN
              clear hown6 hgrow hat hlt6 r1 r2 hb5' hr5 hb4' hr4 hr4' hb4 hb5 k1 k2 k3 k4 k5 k6 hown5 cb cm
              go_wp2_with fail
              go_roundw
              case rel => exact ⟨k + 1, _, _, by omega, by go_num, HIN⟩
              case measure => simp [intOf]; omega
          · obtain rfl : k = nR := by omega
            have hI' : CutI wS wr bm vD' cRc cLc (R.map (flatZ a l)) (L'.map (flatZ a l)) ys xs := by
              have h := hI.out
              rw [List.take_of_length_le (by have := HNR.out; omega)] at h
              exact h
            have HI2 := Lib.hid hI'
            have cm : wr.cell? ⟨bm, 0, none⟩ = some cRc := hI'.blk.cell 0
            have cb : wr.cell? ⟨bl, 0, none⟩ = some (.slice o0 na c0) := (hI'.chg.cellT (p := ⟨bl, 0, none⟩) (cell_ltJ HLS.out) (by have := HBLM.out; simp; omega)).trans HLS.out
            have hbmb : bm < wr.heap.size := hI'.blk.lt
            have hblb : bl < wr.heap.size := cell_ltJ cb
            have hsr : wS.heap.size ≤ wr.heap.size := hI'.chg.size
            have hrl : RowAt wr.drew (bm + 1) (.slice o0 na c0) l := (HRL.out.chgT hI'.chg (by simp)).below (Below.refl wr.heap.size wr).drew (Nat.le_refl _)
            have HRLW := Lib.hid hrl
            have hlm : (R.map (flatZ a l)).length = k := by rw [List.length_map]; exact HNR.out
            have HLM := Lib.hid hlm
            have HK4 := Lib.hid (fun (w4 : World) (hb : Below wr.heap.size wr w4) => (⟨(hI'.below hb).blk.cell 0, (hI'.below hb).blk.lt, Nat.le_trans hsr hb.size⟩ : w4.cell? ⟨bm, 0, none⟩ = some cRc ∧ bm < w4.heap.size ∧ wS.heap.size ≤ w4.heap.size))
            have HO4 := Lib.hid (fun (w4 : World) (hb : Below wr.heap.size wr w4) => (by have := (hI'.below hb).rown; rw [hlm] at this; exact this : w4.ownsRow wS.heap.size 106 2 cRc k ys))
            have hbd : Below wr.heap.size wr wr.drew := (Below.refl wr.heap.size wr).drew
            have HOFR := Lib.hid (of_ready (HMS.out.turn (hI'.below hbd).chg (hI'.below hbd).blk) hrl (by simp) (by have := HND.out; simp; omega) (HOK.out.2.2.2.1 l (List.mem_cons_self ..)))
            have HFAR := Lib.hid (fun (w4 w5 : World) (o : Obj) (hb : Below wr.heap.size wr w4) (hg : (w4.alloc o).grownBy w5 cRc.ownBlock) => (by
              have h1 := hI'.below hb
              have h2 := (h1.blk.alloc o).grownT hg (fun e => by have := (h1.rown.lt bm e.symm).1; omega)
              exact ⟨h2.cell 0, h2.free 0⟩ : w5.cell? ⟨bm, 0, none⟩ = some cRc ∧ w5.frozen? ⟨bm, 0, none⟩ = false))
            have HBD := Lib.hid hbd
            clear hI' hlm hrl hbd hI
            go_wp2_with fail
            go_region_law (first | (have hq := hown5; refine step_append_lies _ (by rfl) (.tmp 120) (.tmp 124) 99 (by rfl) wS.heap.size 106 i1 (.agg #[.slice none 0 0, .pointer none]) 2 32 Tryz.underlying99 HI1.out HY0.out HY1.out HY2.out rfl (by decide) cRc k ys (by rfl) (hq.alloc _) ⟨w5.heap.size, 0, none⟩ 1 1 [.slice o0 na c0, .pointer (some pv5)] (by rfl) (by rfl) (World.news_of_block (cs := #[.slice o0 na c0, .pointer (some pv5)]) (t := 106) (fr := (0, 0)) (heap_new w5 _)) (by intro u hu; simp at hu; rcases hu with rfl | rfl <;> rfl) (by omega) (by unfold maxLen; omega) (by omega) (by simp; omega) (w5.heap.size + 1) (by simp) ?_; intro gg cap1 w6 hown6 hgrow hat hlt6; clear hq; obtain ⟨r1, r2⟩ := HFAR.out w5 w6 _ hb5' hgrow) | (go_simp; (go_at_call 82; refine HOFR.out.mono ?_; rintro e2 w5 ⟨pv5, rfl, hb5⟩; have hb5' := HBD.out.trans hb5; obtain ⟨k4, k5, k6⟩ := HK4.out w5 hb5'; have hown5 := HO4.out w5 hb5'; have hr5 := HRLW.out.below hb5 (Nat.le_refl _))))
            all_goals
              have HIE := HI2.out.ray hb5' hr5 (by rw [HLM.out]; exact hown6) hgrow
              have HIN := HIE.done HMS.out
              have HP : Hid (CutPost w0 w _ bm vD a l R L' D) := ⟨_, _, _, _, _, HIN.1, HIN.2, fun e => HIE.nil (by rw [e]; rfl), HCGS.out.trans (HIE.chg.mono (by simp)), HVN.out⟩
              clear HIE HIN hown6 hgrow hat hlt6 r1 r2 hb5' hr5 hb5 k4 k5 k6 hown5 cb cm
              go_wp2_with fail
              refine bodyPost_ret (v := .tuple #[]) (by simp [results, Tryz.results52, go_sem]) rfl ⟨rfl, HP.out⟩
end Go.Proofs.YtggoncneinlpgaaGreatDoor
