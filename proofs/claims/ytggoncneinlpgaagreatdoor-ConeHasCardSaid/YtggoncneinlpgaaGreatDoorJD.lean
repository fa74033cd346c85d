/- Walk: the law ConeHas, given that corner answers true. Walk: the law ConeHas at a right cone and point, given that corner answers true. -/
import Derived.Test.YtggoncneinlpgaaGreatDoorJB
import Derived.Test.YtggoncneinlpgaaGreatDoorJ3
import Derived.Test.YtggoncneinlpgaaGreatDoorJ1
import Derived.Test.YtggoncneinlpgaaGreatDoorH12
namespace Go.Proofs.YtggoncneinlpgaaGreatDoor
open Go Go.RowKit Nt

/-- The law's first call answers true, here. -/
def Corner (w : World) : Prop := Calls Tryz.prog 4 #[] w fun e w' => e = .returned (.bool true) ∧ Below w.heap.size w w'

set_option maxRecDepth 100000 in
set_option maxHeartbeats 2000000 in
theorem lawHas_far (vu ve vx : Value) (dim : Int) (up ev : List (List Int)) (x : List Int) (a : Nat → Addr) (w : World) (_he : ErrW w a) (hu : MatAt w vu up) (hv : MatAt w ve ev) (hx : SliceI w vx x) (hcor : Corner w) (hlu : up.length ≤ 140737488355328) (hle : ev.length ≤ 140737488355328) (hM : ∀ r ∈ up ++ ev, r.length ≤ 140737488355328) (h : fewB up = false ∨ fewB ev = false ∨ 100 < x.length) :
    Calls Tryz.prog 3 #[.int .i64 dim, vu, ve, vx] w fun e w' => e = .returned (.bool true) ∧ Below w.heap.size w w' := by
  have HC := Lib.hid (show Calls Tryz.prog 4 #[] w fun e w' => e = .returned (.bool true) ∧ Below w.heap.size w w' from hcor)
  have HF1 := Lib.hid (fun w1 (hb : Below w.heap.size w w1) => few_any vu up w1 (hu.below hb (Nat.le_refl _)) hlu (fun r hr => hM r (List.mem_append_left _ hr)))
  have HF2 := Lib.hid (fun w1 (hb : Below w.heap.size w w1) => few_any ve ev w1 (hv.below hb (Nat.le_refl _)) hle (fun r hr => hM r (List.mem_append_right _ hr)))
  obtain ⟨ox, cx, rfl, qx⟩ := hx
  clear qx
  generalize x.length = lx at *
  obtain ⟨g1, hg1⟩ : ∃ g, fewB up = g := ⟨_, rfl⟩
  obtain ⟨g2, hg2⟩ : ∃ g, fewB ev = g := ⟨_, rfl⟩
  rw [hg1] at HF1 h
  rw [hg2] at HF2 h
  clear hu hv _he hcor hM hg1 hg2
  go_enter Tryz.func3, Tryz.ntmps3
  go_wp2_with fail
  refine HC.out.mono ?_
  rintro e w1 ⟨rfl, hb1⟩
  have HB1 := Lib.hid hb1
  have HG1 := Lib.hid (HF1.out w1 hb1)
  have HG2 := Lib.hid (HF2.out w1 hb1)
  clear hb1 HF1 HF2
  go_wp2_with fail
  refine HG1.out.mono ?_
  rintro e w2 ⟨rfl, rfl⟩
  cases g1
  · clear h
    go_wp2_with fail
    go_ret
    exact ⟨rfl, HB1.out⟩
  · go_wp2_with fail
    refine HG2.out.mono ?_
    rintro e w2 ⟨rfl, rfl⟩
    cases g2
    · clear h
      go_wp2_with fail
      go_ret
      exact ⟨rfl, HB1.out⟩
    · have hd : decide (100 < (lx : Int)) = true := by simp at h ⊢; omega
      clear h
      go_wp2_with fail
      go_ret
      exact ⟨rfl, HB1.out⟩

set_option maxRecDepth 100000 in
set_option maxHeartbeats 2000000 in
theorem lawHas_A (vu ve vx : Value) (dim : Int) (up ev : List (List Int)) (x : List Int) (a : Nat → Addr) (w : World) (he : ErrW w a) (hu : MatAt w vu up) (hv : MatAt w ve ev) (hx : SliceI w vx x) (hcor : Corner w) (hfu : fewB up = true) (hfe : fewB ev = true) (hlx : x.length ≤ 100) (h : coneErr dim (up ++ ev) ≠ 0) :
    Calls Tryz.prog 3 #[.int .i64 dim, vu, ve, vx] w fun e w' => e = .returned (.bool true) ∧ Below w.heap.size w w' := by
  have HC := Lib.hid (show Calls Tryz.prog 4 #[] w fun e w' => e = .returned (.bool true) ∧ Below w.heap.size w w' from hcor)
  have HU := Lib.hid hu
  have HV := Lib.hid hv
  have HE := Lib.hid he
  obtain ⟨f1, f2⟩ := few_len hfu
  obtain ⟨f3, f4⟩ := few_len hfe
  have HMU := Lib.hid f2
  have HMV := Lib.hid f4
  have hMM : ∀ r ∈ up ++ ev, r.length ≤ 1000000 := fun r hr => by
    rcases List.mem_append.1 hr with h | h
    · have := f2 r h; omega
    · have := f4 r h; omega
  have HMM := Lib.hid hMM
  have HF1 := Lib.hid (fun w1 (hb : Below w.heap.size w w1) => few_any vu up w1 (hu.below hb (Nat.le_refl _)) (by omega) (fun r hr => by have := f2 r hr; omega))
  have HF2 := Lib.hid (fun w1 (hb : Below w.heap.size w w1) => few_any ve ev w1 (hv.below hb (Nat.le_refl _)) (by omega) (fun r hr => by have := f4 r hr; omega))
  have HCE := Lib.hid (fun w1 (hb : Below w.heap.size w w1) => coneError_any vu ve dim up ev w1 (hu.below hb (Nat.le_refl _)) (hv.below hb (Nat.le_refl _)) (by omega) (by omega) hMM)
  have HRL := Lib.hid (fun w1 (hb : Below w.heap.size w w1) => rlargeJ vx x w1 (hx.below hb (Nat.le_refl _)) (by omega))
  rw [hfu] at HF1
  rw [hfe] at HF2
  obtain ⟨c, hce⟩ : ∃ c, coneErr dim (up ++ ev) = c := ⟨_, rfl⟩
  have hc : c = 2 ∨ c = 3 := by
    rcases coneErr_cases dim (up ++ ev) with h1 | h1 | h1
    · exact absurd h1 h
    · exact .inl (hce.symm.trans h1)
    · exact .inr (hce.symm.trans h1)
  have HERR : Hid (hasErr dim up ev x = c) := by
    show hasErr dim up ev x = c
    rw [hasErr, if_pos h, hce]
  rw [hce] at HCE
  have HX := Lib.hid hx
  have HLX := Lib.hid hlx
  obtain ⟨ox, cx, rfl, qx⟩ := hx
  clear qx
  obtain ⟨lx, hlxe⟩ : ∃ l, x.length = l := ⟨_, rfl⟩
  have HLXE := Lib.hid hlxe
  rw [hlxe] at HX HRL hlx ⊢
  have hcz : decide (c = 0) = false := by simp; omega
  clear h hce
  clear hu hv he hcor hMM hfu hfe f2 f4 hlxe
  go_enter Tryz.func3, Tryz.ntmps3
  go_wp2_with fail
  refine HC.out.mono ?_
  rintro e w1 ⟨rfl, hb1⟩
  have HB1 := Lib.hid hb1
  have HG1 := Lib.hid (HF1.out w1 hb1)
  have HG2 := Lib.hid (HF2.out w1 hb1)
  have HG3 := Lib.hid (HCE.out w1 hb1)
  clear hb1 HF1 HF2 HCE
  go_wp2_with fail
  refine HG1.out.mono ?_
  rintro e w2 ⟨rfl, rfl⟩
  go_wp2_with fail
  refine HG2.out.mono ?_
  rintro e w2 ⟨rfl, rfl⟩
  go_wp2_with fail
  refine HG3.out.mono ?_
  rintro e w2 ⟨rfl, hb2⟩
  have hb02 := HB1.out.trans (hb2.mono HB1.out.size)
  have HB2 := Lib.hid hb02
  have HRL2 := Lib.hid (HRL.out w2 hb02)
  clear hb2 hb02 HG1 HG2 HG3 HRL
  go_wp2_with fail
  refine (lists_any _ up w2 (HU.out.below HB2.out (Nat.le_refl _)) (by omega) (fun r hr => by have := HMU.out r hr; omega)).mono ?_
  rintro e w3 ⟨u1, rfl, hm1, hb3⟩
  have HM1 := Lib.hid hm1
  have HB3 := Lib.hid (HB2.out.trans (hb3.mono HB2.out.size))
  obtain ⟨o1, c1, rfl, q1⟩ := hm1
  clear q1 hb3
  go_wp2_with fail
  refine (lists_any _ ev w3 (HV.out.below HB3.out (Nat.le_refl _)) (by omega) (fun r hr => by have := HMV.out r hr; omega)).mono ?_
  rintro e w4 ⟨u2, rfl, hm2, hb4⟩
  have HM2 := Lib.hid hm2
  have HM14 := Lib.hid (HM1.out.below hb4 (Nat.le_refl _))
  have HB4 := Lib.hid (HB3.out.trans (hb4.mono HB3.out.size))
  obtain ⟨o2, c2, rfl, q2⟩ := hm2
  clear q2 hb4 HM1
  go_wp2_with fail
  refine (ints_any _ x w4 (HX.out.below HB4.out (Nat.le_refl _)) (by have := HLX.out; omega)).mono ?_
  rintro e w5 ⟨u3, rfl, hm3, hb5⟩
  have HB5 := Lib.hid (HB4.out.trans (hb5.mono HB4.out.size))
  have HH := Lib.hid (has_any _ _ _ dim up ev x a w5 (HE.out.below HB5.out (Nat.le_refl _)) (HM14.out.below hb5 (Nat.le_refl _)) (HM2.out.below hb5 (Nat.le_refl _)) hm3 (by omega) (by omega) HMM.out (by have := HLX.out; omega))
  rw [HERR.out] at HH
  obtain ⟨o3, c3, rfl, q3⟩ := hm3
  clear q3 hb5 HM2 HM14 HRL2
  rw [HLXE.out] at HH ⊢
  have HHC := Lib.hid (show errJ a c = sentV a (c.toNat - 1) from if_neg (by omega))
  rw [HHC.out, show (decide (c = 0) && hasB up ev x) = false by rw [decide_eq_false (by omega), Bool.false_and]] at HH
  have HCD := Lib.hid (fun w6 (hb : Below w.heap.size w w6) => coded_err (c.toNat - 1) (by omega) a c w6 (HE.out.below hb (Nat.le_refl _)))
  rw [decide_eq_true (show ((c.toNat - 1 : Nat) : Int) + 1 = c by omega)] at HCD
  have hc0 : decide (0 < c) = true := by simp; omega
  unfold sentV at HH HCD
  clear hc
  go_wp2_with fail
  refine HH.out.mono ?_
  rintro e w6 ⟨rfl, hb6⟩
  have hb06 := HB5.out.trans (hb6.mono HB5.out.size)
  have HB6 := Lib.hid hb06
  have HCD6 := Lib.hid (HCD.out w6 hb06)
  clear hb6 hb06 HCD HH
  go_wp2_with fail
  refine HCD6.out.mono ?_
  rintro e w7 ⟨rfl, hb7⟩
  have HB7 := Lib.hid (HB6.out.trans (hb7.mono HB6.out.size))
  clear hb7
  go_wp2_with fail
  go_ret
  exact ⟨rfl, HB7.out⟩

set_option maxRecDepth 100000 in
set_option maxHeartbeats 2000000 in
theorem lawHas_B (vu ve vx : Value) (dim : Int) (up ev : List (List Int)) (x : List Int) (a : Nat → Addr) (w : World) (he : ErrW w a) (hu : MatAt w vu up) (hv : MatAt w ve ev) (hx : SliceI w vx x) (hcor : Corner w) (hfu : fewB up = true) (hfe : fewB ev = true) (hlx : x.length ≤ 100) (h : coneErr dim (up ++ ev) = 0) (hs : (x.length : Int) ≠ dim) :
    Calls Tryz.prog 3 #[.int .i64 dim, vu, ve, vx] w fun e w' => e = .returned (.bool true) ∧ Below w.heap.size w w' := by
  have HC := Lib.hid (show Calls Tryz.prog 4 #[] w fun e w' => e = .returned (.bool true) ∧ Below w.heap.size w w' from hcor)
  have HU := Lib.hid hu
  have HV := Lib.hid hv
  have HE := Lib.hid he
  obtain ⟨f1, f2⟩ := few_len hfu
  obtain ⟨f3, f4⟩ := few_len hfe
  have HMU := Lib.hid f2
  have HMV := Lib.hid f4
  have hMM : ∀ r ∈ up ++ ev, r.length ≤ 1000000 := fun r hr => by
    rcases List.mem_append.1 hr with h | h
    · have := f2 r h; omega
    · have := f4 r h; omega
  have HMM := Lib.hid hMM
  have HF1 := Lib.hid (fun w1 (hb : Below w.heap.size w w1) => few_any vu up w1 (hu.below hb (Nat.le_refl _)) (by omega) (fun r hr => by have := f2 r hr; omega))
  have HF2 := Lib.hid (fun w1 (hb : Below w.heap.size w w1) => few_any ve ev w1 (hv.below hb (Nat.le_refl _)) (by omega) (fun r hr => by have := f4 r hr; omega))
  have HCE := Lib.hid (fun w1 (hb : Below w.heap.size w w1) => coneError_any vu ve dim up ev w1 (hu.below hb (Nat.le_refl _)) (hv.below hb (Nat.le_refl _)) (by omega) (by omega) hMM)
  have HRL := Lib.hid (fun w1 (hb : Below w.heap.size w w1) => rlargeJ vx x w1 (hx.below hb (Nat.le_refl _)) (by omega))
  rw [hfu] at HF1
  rw [hfe] at HF2
  obtain ⟨c, hcc⟩ : ∃ c : Int, c = 3 := ⟨_, rfl⟩
  have hc : c = 3 := hcc
  have HERR : Hid (hasErr dim up ev x = c) := by
    show hasErr dim up ev x = c
    rw [hasErr, if_neg (by simpa using h), if_pos hs, hcc]
  have HS : Hid (((x.length : Int) != dim) = true) := by
    show _ = _
    simpa using hs
  rw [h] at HCE
  have HX := Lib.hid hx
  have HLX := Lib.hid hlx
  obtain ⟨ox, cx, rfl, qx⟩ := hx
  clear qx
  obtain ⟨lx, hlxe⟩ : ∃ l, x.length = l := ⟨_, rfl⟩
  have HLXE := Lib.hid hlxe
  rw [hlxe] at HX HRL hlx HS ⊢
  have hs' := HS.out
  have HC3 := Lib.hid hcc
  clear h hs hcc hc
  clear hu hv he hcor hMM hfu hfe f2 f4 hlxe
  go_enter Tryz.func3, Tryz.ntmps3
  go_wp2_with fail
  refine HC.out.mono ?_
  rintro e w1 ⟨rfl, hb1⟩
  have HB1 := Lib.hid hb1
  have HG1 := Lib.hid (HF1.out w1 hb1)
  have HG2 := Lib.hid (HF2.out w1 hb1)
  have HG3 := Lib.hid (HCE.out w1 hb1)
  clear hb1 HF1 HF2 HCE
  go_wp2_with fail
  refine HG1.out.mono ?_
  rintro e w2 ⟨rfl, rfl⟩
  go_wp2_with fail
  refine HG2.out.mono ?_
  rintro e w2 ⟨rfl, rfl⟩
  go_wp2_with fail
  refine HG3.out.mono ?_
  rintro e w2 ⟨rfl, hb2⟩
  have hb02 := HB1.out.trans (hb2.mono HB1.out.size)
  have HB2 := Lib.hid hb02
  have HRL2 := Lib.hid (HRL.out w2 hb02)
  clear hb2 hb02 HG1 HG2 HG3 HRL
  go_wp2_with fail
  refine (lists_any _ up w2 (HU.out.below HB2.out (Nat.le_refl _)) (by omega) (fun r hr => by have := HMU.out r hr; omega)).mono ?_
  rintro e w3 ⟨u1, rfl, hm1, hb3⟩
  have HM1 := Lib.hid hm1
  have HB3 := Lib.hid (HB2.out.trans (hb3.mono HB2.out.size))
  obtain ⟨o1, c1, rfl, q1⟩ := hm1
  clear q1 hb3
  go_wp2_with fail
  refine (lists_any _ ev w3 (HV.out.below HB3.out (Nat.le_refl _)) (by omega) (fun r hr => by have := HMV.out r hr; omega)).mono ?_
  rintro e w4 ⟨u2, rfl, hm2, hb4⟩
  have HM2 := Lib.hid hm2
  have HM14 := Lib.hid (HM1.out.below hb4 (Nat.le_refl _))
  have HB4 := Lib.hid (HB3.out.trans (hb4.mono HB3.out.size))
  obtain ⟨o2, c2, rfl, q2⟩ := hm2
  clear q2 hb4 HM1
  go_wp2_with fail
  refine (ints_any _ x w4 (HX.out.below HB4.out (Nat.le_refl _)) (by have := HLX.out; omega)).mono ?_
  rintro e w5 ⟨u3, rfl, hm3, hb5⟩
  have HB5 := Lib.hid (HB4.out.trans (hb5.mono HB4.out.size))
  have HH := Lib.hid (has_any _ _ _ dim up ev x a w5 (HE.out.below HB5.out (Nat.le_refl _)) (HM14.out.below hb5 (Nat.le_refl _)) (HM2.out.below hb5 (Nat.le_refl _)) hm3 (by omega) (by omega) HMM.out (by have := HLX.out; omega))
  rw [HERR.out] at HH
  obtain ⟨o3, c3, rfl, q3⟩ := hm3
  clear q3 hb5 HM2 HM14 HRL2
  rw [HLXE.out] at HH ⊢
  obtain rfl : c = 3 := HC3.out
  have HHC := Lib.hid (show errJ a 3 = sentV a 2 from if_neg (by omega))
  rw [HHC.out, show (decide ((3 : Int) = 0) && hasB up ev x) = false by rw [decide_eq_false (by omega), Bool.false_and]] at HH
  have HCD := Lib.hid (fun w6 (hb : Below w.heap.size w w6) => coded_err 2 (by omega) a 3 w6 (HE.out.below hb (Nat.le_refl _)))
  rw [decide_eq_true (show ((2 : Nat) : Int) + 1 = 3 by omega)] at HCD
  have hc0 : decide ((0 : Int) < 3) = true := by decide
  unfold sentV at HH HCD
  go_wp2_with fail
  refine HH.out.mono ?_
  rintro e w6 ⟨rfl, hb6⟩
  have hb06 := HB5.out.trans (hb6.mono HB5.out.size)
  have HB6 := Lib.hid hb06
  have HCD6 := Lib.hid (HCD.out w6 hb06)
  clear hb6 hb06 HCD HH
  go_wp2_with fail
  refine HCD6.out.mono ?_
  rintro e w7 ⟨rfl, hb7⟩
  have HB7 := Lib.hid (HB6.out.trans (hb7.mono HB6.out.size))
  clear hb7
  go_wp2_with fail
  go_ret
  exact ⟨rfl, HB7.out⟩

set_option maxRecDepth 100000 in
set_option maxHeartbeats 2000000 in
theorem lawHas_C (vu ve vx : Value) (dim : Int) (up ev : List (List Int)) (x : List Int) (a : Nat → Addr) (w : World) (he : ErrW w a) (hu : MatAt w vu up) (hv : MatAt w ve ev) (hx : SliceI w vx x) (hcor : Corner w) (hfu : fewB up = true) (hfe : fewB ev = true) (hlx : x.length ≤ 100) (h : coneErr dim (up ++ ev) = 0) (hs : (x.length : Int) = dim) (hl : largeB x = true) :
    Calls Tryz.prog 3 #[.int .i64 dim, vu, ve, vx] w fun e w' => e = .returned (.bool true) ∧ Below w.heap.size w w' := by
  have HC := Lib.hid (show Calls Tryz.prog 4 #[] w fun e w' => e = .returned (.bool true) ∧ Below w.heap.size w w' from hcor)
  have HU := Lib.hid hu
  have HV := Lib.hid hv
  have HE := Lib.hid he
  obtain ⟨f1, f2⟩ := few_len hfu
  obtain ⟨f3, f4⟩ := few_len hfe
  have HMU := Lib.hid f2
  have HMV := Lib.hid f4
  have hMM : ∀ r ∈ up ++ ev, r.length ≤ 1000000 := fun r hr => by
    rcases List.mem_append.1 hr with h | h
    · have := f2 r h; omega
    · have := f4 r h; omega
  have HMM := Lib.hid hMM
  have HF1 := Lib.hid (fun w1 (hb : Below w.heap.size w w1) => few_any vu up w1 (hu.below hb (Nat.le_refl _)) (by omega) (fun r hr => by have := f2 r hr; omega))
  have HF2 := Lib.hid (fun w1 (hb : Below w.heap.size w w1) => few_any ve ev w1 (hv.below hb (Nat.le_refl _)) (by omega) (fun r hr => by have := f4 r hr; omega))
  have HCE := Lib.hid (fun w1 (hb : Below w.heap.size w w1) => coneError_any vu ve dim up ev w1 (hu.below hb (Nat.le_refl _)) (hv.below hb (Nat.le_refl _)) (by omega) (by omega) hMM)
  have HRL := Lib.hid (fun w1 (hb : Below w.heap.size w w1) => rlargeJ vx x w1 (hx.below hb (Nat.le_refl _)) (by omega))
  rw [hfu] at HF1
  rw [hfe] at HF2
  obtain ⟨c, hcc⟩ : ∃ c : Int, c = 2 := ⟨_, rfl⟩
  have HERR : Hid (hasErr dim up ev x = c) := by
    show hasErr dim up ev x = c
    rw [hasErr, if_neg (by simpa using h), if_neg (by simpa using hs), if_pos hl, hcc]
  have HS : Hid (((x.length : Int) != dim) = false) := by
    show _ = _
    simpa using hs
  rw [h] at HCE
  rw [hl] at HRL
  have HX := Lib.hid hx
  have HLX := Lib.hid hlx
  obtain ⟨ox, cx, rfl, qx⟩ := hx
  clear qx
  obtain ⟨lx, hlxe⟩ : ∃ l, x.length = l := ⟨_, rfl⟩
  have HLXE := Lib.hid hlxe
  rw [hlxe] at HX HRL hlx HS ⊢
  have hs' := HS.out
  have HC3 := Lib.hid hcc
  clear h hs hcc hl
  clear hu hv he hcor hMM hfu hfe f2 f4 hlxe
  go_enter Tryz.func3, Tryz.ntmps3
  go_wp2_with fail
  refine HC.out.mono ?_
  rintro e w1 ⟨rfl, hb1⟩
  have HB1 := Lib.hid hb1
  have HG1 := Lib.hid (HF1.out w1 hb1)
  have HG2 := Lib.hid (HF2.out w1 hb1)
  have HG3 := Lib.hid (HCE.out w1 hb1)
  clear hb1 HF1 HF2 HCE
  go_wp2_with fail
  refine HG1.out.mono ?_
  rintro e w2 ⟨rfl, rfl⟩
  go_wp2_with fail
  refine HG2.out.mono ?_
  rintro e w2 ⟨rfl, rfl⟩
  go_wp2_with fail
  refine HG3.out.mono ?_
  rintro e w2 ⟨rfl, hb2⟩
  have hb02 := HB1.out.trans (hb2.mono HB1.out.size)
  have HB2 := Lib.hid hb02
  have HRL2 := Lib.hid (HRL.out w2 hb02)
  clear hb2 hb02 HG1 HG2 HG3 HRL
  go_wp2_with fail
  refine HRL2.out.mono ?_
  rintro e w3 ⟨rfl, rfl⟩
  go_wp2_with fail
  refine (lists_any _ up w2 (HU.out.below HB2.out (Nat.le_refl _)) (by omega) (fun r hr => by have := HMU.out r hr; omega)).mono ?_
  rintro e w3 ⟨u1, rfl, hm1, hb3⟩
  have HM1 := Lib.hid hm1
  have HB3 := Lib.hid (HB2.out.trans (hb3.mono HB2.out.size))
  obtain ⟨o1, c1, rfl, q1⟩ := hm1
  clear q1 hb3
  go_wp2_with fail
  refine (lists_any _ ev w3 (HV.out.below HB3.out (Nat.le_refl _)) (by omega) (fun r hr => by have := HMV.out r hr; omega)).mono ?_
  rintro e w4 ⟨u2, rfl, hm2, hb4⟩
  have HM2 := Lib.hid hm2
  have HM14 := Lib.hid (HM1.out.below hb4 (Nat.le_refl _))
  have HB4 := Lib.hid (HB3.out.trans (hb4.mono HB3.out.size))
  obtain ⟨o2, c2, rfl, q2⟩ := hm2
  clear q2 hb4 HM1
  go_wp2_with fail
  refine (ints_any _ x w4 (HX.out.below HB4.out (Nat.le_refl _)) (by have := HLX.out; omega)).mono ?_
  rintro e w5 ⟨u3, rfl, hm3, hb5⟩
  have HB5 := Lib.hid (HB4.out.trans (hb5.mono HB4.out.size))
  have HH := Lib.hid (has_any _ _ _ dim up ev x a w5 (HE.out.below HB5.out (Nat.le_refl _)) (HM14.out.below hb5 (Nat.le_refl _)) (HM2.out.below hb5 (Nat.le_refl _)) hm3 (by omega) (by omega) HMM.out (by have := HLX.out; omega))
  rw [HERR.out] at HH
  obtain ⟨o3, c3, rfl, q3⟩ := hm3
  clear q3 hb5 HM2 HM14 HRL2
  rw [HLXE.out] at HH ⊢
  obtain rfl : c = 2 := HC3.out
  have HHC := Lib.hid (show errJ a 2 = sentV a 1 from if_neg (by omega))
  rw [HHC.out, show (decide ((2 : Int) = 0) && hasB up ev x) = false by rw [decide_eq_false (by omega), Bool.false_and]] at HH
  have HCD := Lib.hid (fun w6 (hb : Below w.heap.size w w6) => coded_err 1 (by omega) a 2 w6 (HE.out.below hb (Nat.le_refl _)))
  rw [decide_eq_true (show ((1 : Nat) : Int) + 1 = 2 by omega)] at HCD
  have hc0 : decide ((0 : Int) < 2) = true := by decide
  unfold sentV at HH HCD
  go_wp2_with fail
  refine HH.out.mono ?_
  rintro e w6 ⟨rfl, hb6⟩
  have hb06 := HB5.out.trans (hb6.mono HB5.out.size)
  have HB6 := Lib.hid hb06
  have HCD6 := Lib.hid (HCD.out w6 hb06)
  clear hb6 hb06 HCD HH
  go_wp2_with fail
  refine HCD6.out.mono ?_
  rintro e w7 ⟨rfl, hb7⟩
  have HB7 := Lib.hid (HB6.out.trans (hb7.mono HB6.out.size))
  clear hb7
  go_wp2_with fail
  go_ret
  exact ⟨rfl, HB7.out⟩
end Go.Proofs.YtggoncneinlpgaaGreatDoor
namespace Go.Proofs.YtggoncneinlpgaaGreatDoor
open Go Go.RowKit Nt

theorem all_snoc8 {α : Type} (p : α → Bool) (l : List α) (x : α) : (l ++ [x]).all p = (l.all p && p x) := by simp
theorem any_false_get {m : List (List Int)} (h : m.any wildB = false) {r : List Int} (hr : r ∈ m) : ∀ z ∈ r, -30 ≤ z ∧ z ≤ 30 :=
  tame_of (by rw [List.any_eq_false] at h; simpa using h r hr)

set_option maxRecDepth 100000 in
set_option maxHeartbeats 2000000 in
theorem lawHas_wild (vu ve vx : Value) (dim : Int) (up ev : List (List Int)) (x : List Int) (a : Nat → Addr) (w : World) (he : ErrW w a) (hu : MatAt w vu up) (hv : MatAt w ve ev) (hx : SliceI w vx x) (hcor : Corner w) (hfu : fewB up = true) (hfe : fewB ev = true) (hlx : x.length ≤ 100) (h : coneErr dim (up ++ ev) = 0) (hs : (x.length : Int) = dim) (hl : largeB x = false) (hw : up.any wildB = true ∨ ev.any wildB = true) :
    Calls Tryz.prog 3 #[.int .i64 dim, vu, ve, vx] w fun e w' => e = .returned (.bool true) ∧ Below w.heap.size w w' := by
  have HC := Lib.hid (show Calls Tryz.prog 4 #[] w fun e w' => e = .returned (.bool true) ∧ Below w.heap.size w w' from hcor)
  have HU := Lib.hid hu
  have HV := Lib.hid hv
  have HE := Lib.hid he
  obtain ⟨f1, f2⟩ := few_len hfu
  obtain ⟨f3, f4⟩ := few_len hfe
  have HMU := Lib.hid f2
  have HMV := Lib.hid f4
  have hMM : ∀ r ∈ up ++ ev, r.length ≤ 1000000 := fun r hr => by
    rcases List.mem_append.1 hr with h | h
    · have := f2 r h; omega
    · have := f4 r h; omega
  have HMM := Lib.hid hMM
  have HF1 := Lib.hid (fun w1 (hb : Below w.heap.size w w1) => few_any vu up w1 (hu.below hb (Nat.le_refl _)) (by omega) (fun r hr => by have := f2 r hr; omega))
  have HF2 := Lib.hid (fun w1 (hb : Below w.heap.size w w1) => few_any ve ev w1 (hv.below hb (Nat.le_refl _)) (by omega) (fun r hr => by have := f4 r hr; omega))
  have HCE := Lib.hid (fun w1 (hb : Below w.heap.size w w1) => coneError_any vu ve dim up ev w1 (hu.below hb (Nat.le_refl _)) (hv.below hb (Nat.le_refl _)) (by omega) (by omega) hMM)
  have HRL := Lib.hid (fun w1 (hb : Below w.heap.size w w1) => rlargeJ vx x w1 (hx.below hb (Nat.le_refl _)) (by omega))
  rw [hfu] at HF1
  rw [hfe] at HF2
  have HTA1 := Lib.hid (fun w1 (hb : Below w.heap.size w w1) => tameAll_any vu up w1 (hu.below hb (Nat.le_refl _)) (by omega) (fun r hr => by have := f2 r hr; omega))
  have HTA2 := Lib.hid (fun w1 (hb : Below w.heap.size w w1) => tameAll_any ve ev w1 (hv.below hb (Nat.le_refl _)) (by omega) (fun r hr => by have := f4 r hr; omega))
  have HERR : Hid (hasErr dim up ev x = 0) := by
    show hasErr dim up ev x = 0
    rw [hasErr, if_neg (by simpa using h), if_neg (by simpa using hs), if_neg (by simpa using hl)]
  have HS : Hid (((x.length : Int) != dim) = false) := by
    show _ = _
    simpa using hs
  have HFX := Lib.hid (half_of hl)
  obtain ⟨_, _, _, z4, _⟩ := coneErr_zero h
  have HLEN := Lib.hid (fun r (hr : r ∈ up ++ ev) => show r.length = x.length by
    have h1 := z4 r hr
    omega)
  rw [h] at HCE
  rw [hl] at HRL
  obtain ⟨g1, hg1⟩ : ∃ g, up.any wildB = g := ⟨_, rfl⟩
  obtain ⟨g2, hg2⟩ : ∃ g, ev.any wildB = g := ⟨_, rfl⟩
  rw [hg1] at HTA1 hw
  rw [hg2] at HTA2 hw
  clear hg1 hg2
  have HX := Lib.hid hx
  have HLX := Lib.hid hlx
  obtain ⟨ox, cx, rfl, qx⟩ := hx
  clear qx
  obtain ⟨lx, hlxe⟩ : ∃ l, x.length = l := ⟨_, rfl⟩
  have HLXE := Lib.hid hlxe
  rw [hlxe] at HX HRL hlx HS ⊢
  have hs' := HS.out
  clear h hs hl z4
  clear hu hv he hcor hMM hfu hfe f2 f4 hlxe
  go_enter Tryz.func3, Tryz.ntmps3
  go_wp2_with fail
  refine HC.out.mono ?_
  rintro e w1 ⟨rfl, hb1⟩
  have HB1 := Lib.hid hb1
  have HG1 := Lib.hid (HF1.out w1 hb1)
  have HG2 := Lib.hid (HF2.out w1 hb1)
  have HG3 := Lib.hid (HCE.out w1 hb1)
  clear hb1 HF1 HF2 HCE
  go_wp2_with fail
  refine HG1.out.mono ?_
  rintro e w2 ⟨rfl, rfl⟩
  go_wp2_with fail
  refine HG2.out.mono ?_
  rintro e w2 ⟨rfl, rfl⟩
  go_wp2_with fail
  refine HG3.out.mono ?_
  rintro e w2 ⟨rfl, hb2⟩
  have hb02 := HB1.out.trans (hb2.mono HB1.out.size)
  have HB2 := Lib.hid hb02
  have HRL2 := Lib.hid (HRL.out w2 hb02)
  clear hb2 hb02 HG1 HG2 HG3 HRL
  go_wp2_with fail
  refine HRL2.out.mono ?_
  rintro e w3 ⟨rfl, rfl⟩
  go_wp2_with fail
  refine (lists_any _ up w2 (HU.out.below HB2.out (Nat.le_refl _)) (by omega) (fun r hr => by have := HMU.out r hr; omega)).mono ?_
  rintro e w3 ⟨u1, rfl, hm1, hb3⟩
  have HM1 := Lib.hid hm1
  have HB3 := Lib.hid (HB2.out.trans (hb3.mono HB2.out.size))
  obtain ⟨o1, c1, rfl, q1⟩ := hm1
  clear q1 hb3
  go_wp2_with fail
  refine (lists_any _ ev w3 (HV.out.below HB3.out (Nat.le_refl _)) (by omega) (fun r hr => by have := HMV.out r hr; omega)).mono ?_
  rintro e w4 ⟨u2, rfl, hm2, hb4⟩
  have HM2 := Lib.hid hm2
  have HM14 := Lib.hid (HM1.out.below hb4 (Nat.le_refl _))
  have HB4 := Lib.hid (HB3.out.trans (hb4.mono HB3.out.size))
  obtain ⟨o2, c2, rfl, q2⟩ := hm2
  clear q2 hb4 HM1
  go_wp2_with fail
  refine (ints_any _ x w4 (HX.out.below HB4.out (Nat.le_refl _)) (by have := HLX.out; omega)).mono ?_
  rintro e w5 ⟨u3, rfl, hm3, hb5⟩
  have HB5 := Lib.hid (HB4.out.trans (hb5.mono HB4.out.size))
  have HH := Lib.hid (has_any _ _ _ dim up ev x a w5 (HE.out.below HB5.out (Nat.le_refl _)) (HM14.out.below hb5 (Nat.le_refl _)) (HM2.out.below hb5 (Nat.le_refl _)) hm3 (by omega) (by omega) HMM.out (by have := HLX.out; omega))
  rw [HERR.out] at HH
  obtain ⟨o3, c3, rfl, q3⟩ := hm3
  clear q3 hb5 HM2 HM14 HRL2
  rw [HLXE.out] at HH ⊢
  rw [show errJ a 0 = .nilIface from rfl, show (decide ((0 : Int) = 0) && hasB up ev x) = hasB up ev x by simp] at HH
  obtain ⟨res, hres⟩ : ∃ r, hasB up ev x = r := ⟨_, rfl⟩
  have HRES := Lib.hid hres
  rw [hres] at HH
  clear hres
  go_wp2_with fail
  refine HH.out.mono ?_
  rintro e w6 ⟨rfl, hb6⟩
  have hb06 := HB5.out.trans (hb6.mono HB5.out.size)
  have HB6 := Lib.hid hb06
  have HT1 := Lib.hid (HTA1.out w6 hb06)
  have HT2 := Lib.hid (HTA2.out w6 hb06)
  clear hb6 hb06 HH HTA1 HTA2
  go_wp2_with fail
  refine HT1.out.mono ?_
  rintro e w7 ⟨rfl, rfl⟩
  cases g1
  · obtain rfl : g2 = true := by simpa using hw
    clear hw
    go_wp2_with fail
    refine HT2.out.mono ?_
    rintro e w7 ⟨rfl, rfl⟩
    go_wp2_with fail
    go_ret
    exact ⟨rfl, HB6.out⟩
  · clear hw
    go_wp2_with fail
    go_ret
    exact ⟨rfl, HB6.out⟩

set_option maxRecDepth 100000 in
set_option maxHeartbeats 2000000 in
theorem lawHas_main (vu ve vx : Value) (dim : Int) (up ev : List (List Int)) (x : List Int) (a : Nat → Addr) (w : World) (he : ErrW w a) (hu : MatAt w vu up) (hv : MatAt w ve ev) (hx : SliceI w vx x) (hcor : Corner w) (hfu : fewB up = true) (hfe : fewB ev = true) (hlx : x.length ≤ 100) (h : coneErr dim (up ++ ev) = 0) (hs : (x.length : Int) = dim) (hl : largeB x = false) (hwu : up.any wildB = false) (hwe : ev.any wildB = false) :
    Calls Tryz.prog 3 #[.int .i64 dim, vu, ve, vx] w fun e w' => e = .returned (.bool true) ∧ Below w.heap.size w w' := by
  have HC := Lib.hid (show Calls Tryz.prog 4 #[] w fun e w' => e = .returned (.bool true) ∧ Below w.heap.size w w' from hcor)
  have HU := Lib.hid hu
  have HV := Lib.hid hv
  have HE := Lib.hid he
  obtain ⟨f1, f2⟩ := few_len hfu
  obtain ⟨f3, f4⟩ := few_len hfe
  have HMU := Lib.hid f2
  have HMV := Lib.hid f4
  have hMM : ∀ r ∈ up ++ ev, r.length ≤ 1000000 := fun r hr => by
    rcases List.mem_append.1 hr with h | h
    · have := f2 r h; omega
    · have := f4 r h; omega
  have HMM := Lib.hid hMM
  have HF1 := Lib.hid (fun w1 (hb : Below w.heap.size w w1) => few_any vu up w1 (hu.below hb (Nat.le_refl _)) (by omega) (fun r hr => by have := f2 r hr; omega))
  have HF2 := Lib.hid (fun w1 (hb : Below w.heap.size w w1) => few_any ve ev w1 (hv.below hb (Nat.le_refl _)) (by omega) (fun r hr => by have := f4 r hr; omega))
  have HCE := Lib.hid (fun w1 (hb : Below w.heap.size w w1) => coneError_any vu ve dim up ev w1 (hu.below hb (Nat.le_refl _)) (hv.below hb (Nat.le_refl _)) (by omega) (by omega) hMM)
  have HRL := Lib.hid (fun w1 (hb : Below w.heap.size w w1) => rlargeJ vx x w1 (hx.below hb (Nat.le_refl _)) (by omega))
  rw [hfu] at HF1
  rw [hfe] at HF2
  have HTA1 := Lib.hid (fun w1 (hb : Below w.heap.size w w1) => tameAll_any vu up w1 (hu.below hb (Nat.le_refl _)) (by omega) (fun r hr => by have := f2 r hr; omega))
  have HTA2 := Lib.hid (fun w1 (hb : Below w.heap.size w w1) => tameAll_any ve ev w1 (hv.below hb (Nat.le_refl _)) (by omega) (fun r hr => by have := f4 r hr; omega))
  have HERR : Hid (hasErr dim up ev x = 0) := by
    show hasErr dim up ev x = 0
    rw [hasErr, if_neg (by simpa using h), if_neg (by simpa using hs), if_neg (by simpa using hl)]
  have HS : Hid (((x.length : Int) != dim) = false) := by
    show _ = _
    simpa using hs
  have HFX := Lib.hid (half_of hl)
  obtain ⟨_, _, _, z4, _⟩ := coneErr_zero h
  have HLEN := Lib.hid (fun r (hr : r ∈ up ++ ev) => show r.length = x.length by
    have h1 := z4 r hr
    omega)
  rw [h] at HCE
  rw [hl] at HRL
  rw [hwu] at HTA1
  rw [hwe] at HTA2
  have HWU := Lib.hid hwu
  have HWE := Lib.hid hwe
  clear hwu hwe
  have HX := Lib.hid hx
  have HLX := Lib.hid hlx
  obtain ⟨ox, cx, rfl, qx⟩ := hx
  clear qx
  obtain ⟨lx, hlxe⟩ : ∃ l, x.length = l := ⟨_, rfl⟩
  have HLXE := Lib.hid hlxe
  rw [hlxe] at HX HRL hlx HS ⊢
  have hs' := HS.out
  clear h hs hl z4
  clear hu hv he hcor hMM hfu hfe f2 f4 hlxe
  go_enter Tryz.func3, Tryz.ntmps3
  go_wp2_with fail
  refine HC.out.mono ?_
  rintro e w1 ⟨rfl, hb1⟩
  have HB1 := Lib.hid hb1
  have HG1 := Lib.hid (HF1.out w1 hb1)
  have HG2 := Lib.hid (HF2.out w1 hb1)
  have HG3 := Lib.hid (HCE.out w1 hb1)
  clear hb1 HF1 HF2 HCE
  go_wp2_with fail
  refine HG1.out.mono ?_
  rintro e w2 ⟨rfl, rfl⟩
  go_wp2_with fail
  refine HG2.out.mono ?_
  rintro e w2 ⟨rfl, rfl⟩
  go_wp2_with fail
  refine HG3.out.mono ?_
  rintro e w2 ⟨rfl, hb2⟩
  have hb02 := HB1.out.trans (hb2.mono HB1.out.size)
  have HB2 := Lib.hid hb02
  have HRL2 := Lib.hid (HRL.out w2 hb02)
  clear hb2 hb02 HG1 HG2 HG3 HRL
  go_wp2_with fail
  refine HRL2.out.mono ?_
  rintro e w3 ⟨rfl, rfl⟩
  go_wp2_with fail
  refine (lists_any _ up w2 (HU.out.below HB2.out (Nat.le_refl _)) (by omega) (fun r hr => by have := HMU.out r hr; omega)).mono ?_
  rintro e w3 ⟨u1, rfl, hm1, hb3⟩
  have HM1 := Lib.hid hm1
  have HB3 := Lib.hid (HB2.out.trans (hb3.mono HB2.out.size))
  obtain ⟨o1, c1, rfl, q1⟩ := hm1
  clear q1 hb3
  go_wp2_with fail
  refine (lists_any _ ev w3 (HV.out.below HB3.out (Nat.le_refl _)) (by omega) (fun r hr => by have := HMV.out r hr; omega)).mono ?_
  rintro e w4 ⟨u2, rfl, hm2, hb4⟩
  have HM2 := Lib.hid hm2
  have HM14 := Lib.hid (HM1.out.below hb4 (Nat.le_refl _))
  have HB4 := Lib.hid (HB3.out.trans (hb4.mono HB3.out.size))
  obtain ⟨o2, c2, rfl, q2⟩ := hm2
  clear q2 hb4 HM1
  go_wp2_with fail
  refine (ints_any _ x w4 (HX.out.below HB4.out (Nat.le_refl _)) (by have := HLX.out; omega)).mono ?_
  rintro e w5 ⟨u3, rfl, hm3, hb5⟩
  have HB5 := Lib.hid (HB4.out.trans (hb5.mono HB4.out.size))
  have HH := Lib.hid (has_any _ _ _ dim up ev x a w5 (HE.out.below HB5.out (Nat.le_refl _)) (HM14.out.below hb5 (Nat.le_refl _)) (HM2.out.below hb5 (Nat.le_refl _)) hm3 (by omega) (by omega) HMM.out (by have := HLX.out; omega))
  rw [HERR.out] at HH
  obtain ⟨o3, c3, rfl, q3⟩ := hm3
  clear q3 hb5 HM2 HM14 HRL2
  rw [HLXE.out] at HH ⊢
  rw [show errJ a 0 = .nilIface from rfl, show (decide ((0 : Int) = 0) && hasB up ev x) = hasB up ev x by simp] at HH
  obtain ⟨res, hres⟩ : ∃ r, hasB up ev x = r := ⟨_, rfl⟩
  have HRES := Lib.hid hres
  rw [hres] at HH
  clear hres
  go_wp2_with fail
  refine HH.out.mono ?_
  rintro e w6 ⟨rfl, hb6⟩
  have hb06 := HB5.out.trans (hb6.mono HB5.out.size)
  have HB6 := Lib.hid hb06
  have HT1 := Lib.hid (HTA1.out w6 hb06)
  have HT2 := Lib.hid (HTA2.out w6 hb06)
  clear hb6 hb06 HH HTA1 HTA2
  go_wp2_with fail
  refine HT1.out.mono ?_
  rintro e w7 ⟨rfl, rfl⟩
  go_wp2_with fail
  refine HT2.out.mono ?_
  rintro e w7 ⟨rfl, rfl⟩
  obtain ⟨ou, cu, rfl, q1⟩ := id HU.out
  obtain ⟨oe, ce, rfl, q2⟩ := id HV.out
  obtain ⟨lu, hlu⟩ : ∃ n, up.length = n := ⟨_, rfl⟩
  obtain ⟨le, hle⟩ : ∃ n, ev.length = n := ⟨_, rfl⟩
  have HLU := Lib.hid hlu
  have HLE := Lib.hid hle
  rw [hlu] at f1 HU ⊢
  rw [hle] at f3 HV ⊢
  clear q1 q2 hlu hle
  go_wp2_with fail
  go_loopw [13, 14] (fun s i wr => ∃ k q : Nat, k ≤ lu ∧ i = .int .i64 k ∧ s = .bool ((up.take k).all (fun r => decide (0 ≤ dotZ r x))) ∧ wr = w6.drewN q) (fun _ i _ => lu - (intOf i).toNat)
  case atStart => exact ⟨0, 0, Nat.zero_le _, rfl, rfl, rfl⟩
  case round =>
    obtain ⟨k, q, hk, rfl, rfl, rfl⟩ := hrel
    by_cases hlt : k < lu
    · have hk' : k < up.length := by have := HLU.out; omega
      have hbq := below_drewN' HB6.out q
      obtain ⟨b, off, cap', oa, ca, e1, hbl, h2, h3⟩ := (HU.out.below hbq (Nat.le_refl _)).get hk'
      simp only [Value.slice.injEq] at e1
      obtain ⟨rfl, hnn, rfl⟩ := e1
      have HD := Lib.hid (dotOf_any _ _ up[k] x (w6.drewN q) h3 (HX.out.below hbq (Nat.le_refl _)) (HLEN.out _ (List.mem_append_left _ (List.getElem_mem hk'))) (any_false_get HWU.out (List.getElem_mem hk')) HFX.out (by have := HMU.out _ (List.getElem_mem hk'); omega))
      have HT := Lib.hid (show (up.take (k + 1)).all (fun r => decide (0 ≤ dotZ r x)) = ((up.take k).all (fun r => decide (0 ≤ dotZ r x)) && decide (0 ≤ dotZ up[k] x)) by rw [List.take_succ_eq_append_getElem hk', all_snoc8])
      obtain ⟨g, hg⟩ : ∃ g, (up.take k).all (fun r => decide (0 ≤ dotZ r x)) = g := ⟨_, rfl⟩
      obtain ⟨d, hd⟩ : ∃ d, dotZ up[k] x = d := ⟨_, rfl⟩
      rw [hg, hd] at HT
      rw [hd] at HD
      rw [hg]
      obtain ⟨la, hla⟩ : ∃ l, up[k].length = l := ⟨_, rfl⟩
      rw [hla] at h2 HD
      clear h3 hnn hg hd hla hbq
      cases g
      · go_wp2_with fail
        go_roundw
        case rel => exact ⟨k + 1, q, by omega, by go_num, by rw [HT.out]; rfl, rfl⟩
        case measure => simp [intOf]; omega
      · go_wp2_with fail
        refine HD.out.mono ?_
        rintro e w8 ⟨rfl, q2, rfl⟩
        go_wp2_with fail
        go_roundw
        case rel => exact ⟨k + 1, q + q2, by omega, by go_num, by rw [HT.out]; simp <;> rfl, rfl⟩
        case measure => simp [intOf]; omega
    · obtain rfl : k = lu := by omega
      rw [List.take_of_length_le (by have := HLU.out; omega)]
      obtain ⟨g1, hg1⟩ : ∃ g, up.all (fun r => decide (0 ≤ dotZ r x)) = g := ⟨_, rfl⟩
      rw [hg1]
      have HRS := Lib.hid (show res = (g1 && ev.all (fun r => decide (dotZ r x = 0))) by rw [← HRES.out, hasB, hg1])
      clear hg1
      go_wp2_with fail
      go_loopw [13, 15] (fun s i wr => ∃ k q : Nat, k ≤ le ∧ i = .int .i64 k ∧ s = .bool (g1 && (ev.take k).all (fun r => decide (dotZ r x = 0))) ∧ wr = w6.drewN q) (fun _ i _ => le - (intOf i).toNat)
      case atStart => exact ⟨0, q, Nat.zero_le _, rfl, by simp, rfl⟩
      case round =>
        obtain ⟨k, q, hk, rfl, rfl, rfl⟩ := hrel
        by_cases hlt : k < le
        · have hk' : k < ev.length := by have := HLE.out; omega
          have hbq := below_drewN' HB6.out q
          obtain ⟨b, off, cap', oa, ca, e1, hbl, h2, h3⟩ := (HV.out.below hbq (Nat.le_refl _)).get hk'
          simp only [Value.slice.injEq] at e1
          obtain ⟨rfl, hnn, rfl⟩ := e1
          have HD := Lib.hid (dotOf_any _ _ ev[k] x (w6.drewN q) h3 (HX.out.below hbq (Nat.le_refl _)) (HLEN.out _ (List.mem_append_right _ (List.getElem_mem hk'))) (any_false_get HWE.out (List.getElem_mem hk')) HFX.out (by have := HMV.out _ (List.getElem_mem hk'); omega))
          have HT := Lib.hid (show (g1 && (ev.take (k + 1)).all (fun r => decide (dotZ r x = 0))) = ((g1 && (ev.take k).all (fun r => decide (dotZ r x = 0))) && decide (dotZ ev[k] x = 0)) by rw [List.take_succ_eq_append_getElem hk', all_snoc8, Bool.and_assoc])
          obtain ⟨g, hg⟩ : ∃ g, (g1 && (ev.take k).all (fun r => decide (dotZ r x = 0))) = g := ⟨_, rfl⟩
          obtain ⟨d, hd⟩ : ∃ d, dotZ ev[k] x = d := ⟨_, rfl⟩
          rw [hg, hd] at HT
          rw [hd] at HD
          rw [hg]
          obtain ⟨la, hla⟩ : ∃ l, ev[k].length = l := ⟨_, rfl⟩
          rw [hla] at h2 HD
          clear h3 hnn hg hd hla hbq
          cases g
          · go_wp2_with fail
            go_roundw
            case rel => exact ⟨k + 1, q, by omega, by go_num, by rw [HT.out]; rfl, rfl⟩
            case measure => simp [intOf]; omega
          · go_wp2_with fail
            refine HD.out.mono ?_
            rintro e w8 ⟨rfl, q2, rfl⟩
            go_wp2_with fail
            go_roundw
            case rel => exact ⟨k + 1, q + q2, by omega, by go_num, by rw [HT.out]; simp <;> rfl, rfl⟩
            case measure => simp [intOf]; omega
        · obtain rfl : k = le := by omega
          rw [List.take_of_length_le (by have := HLE.out; omega), ← HRS.out]
          have HBQ := Lib.hid (below_drewN' HB6.out q)
          clear HRS
          cases res
          all_goals
            go_wp2_with fail
            go_ret
            exact ⟨rfl, HBQ.out⟩

/-- The law ConeHas answers true, given that its first call does. -/
theorem law_has (vu ve vx : Value) (dim : Int) (up ev : List (List Int)) (x : List Int) (a : Nat → Addr) (w : World) (he : ErrW w a) (hu : MatAt w vu up) (hv : MatAt w ve ev) (hx : SliceI w vx x) (hcor : Corner w) (hlu : up.length ≤ 140737488355328) (hle : ev.length ≤ 140737488355328) (hM : ∀ r ∈ up ++ ev, r.length ≤ 140737488355328) :
    Calls Tryz.prog 3 #[.int .i64 dim, vu, ve, vx] w fun e w' => e = .returned (.bool true) ∧ Below w.heap.size w w' := by
  by_cases hf : fewB up = false ∨ fewB ev = false ∨ 100 < x.length
  · exact lawHas_far vu ve vx dim up ev x a w he hu hv hx hcor hlu hle hM hf
  · simp only [not_or, Bool.not_eq_false] at hf
    obtain ⟨h1, h2, h3⟩ := hf
    by_cases h : coneErr dim (up ++ ev) = 0
    · by_cases hs : (x.length : Int) = dim
      · by_cases hl : largeB x = true
        · exact lawHas_C vu ve vx dim up ev x a w he hu hv hx hcor h1 h2 (by omega) h hs hl
        · have hl' : largeB x = false := by simpa using hl
          by_cases hw : up.any wildB = true ∨ ev.any wildB = true
          · exact lawHas_wild vu ve vx dim up ev x a w he hu hv hx hcor h1 h2 (by omega) h hs hl' hw
          · simp only [not_or, Bool.not_eq_true] at hw
            exact lawHas_main vu ve vx dim up ev x a w he hu hv hx hcor h1 h2 (by omega) h hs hl' hw.1 hw.2
      · exact lawHas_B vu ve vx dim up ev x a w he hu hv hx hcor h1 h2 (by omega) h hs
    · exact lawHas_A vu ve vx dim up ev x a w he hu hv hx hcor h1 h2 (by omega) h
end Go.Proofs.YtggoncneinlpgaaGreatDoor
