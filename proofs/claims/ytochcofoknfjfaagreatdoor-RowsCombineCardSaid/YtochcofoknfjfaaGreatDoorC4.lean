/- Walk: the law RowsCombine. -/
import Derived.Test.YtochcofoknfjfaaGreatDoorC3
import Derived.Test.YtochcofoknfjfaaGreatDoorR4
namespace Go.Proofs.YtochcofoknfjfaaGreatDoor
open Go Go.RowKit Nt

theorem norm_fit {zs : List Int} (h : Fit zs) : Fit (normZ zs) := by
  rw [← refN_eq]
  intro z hz
  obtain ⟨x, hx, rfl⟩ := List.mem_map.1 hz
  unfold refD
  split
  · have := h x hx
    rw [Int.natAbs_tdiv]
    exact Nat.le_trans (Nat.div_le_self _ _) this
  · simp
theorem tame_fit {xs ys : List Int} {x y : Int} (hx : ∀ z ∈ xs, -30 ≤ z ∧ z ≤ 30) (hy : ∀ z ∈ ys, -30 ≤ z ∧ z ≤ 30) (h1 : -30 ≤ x ∧ x ≤ 30) (h2 : -30 ≤ y ∧ y ≤ 30) (hl : xs.length = ys.length) : Fit (normZ (mixZ xs x ys y)) := by
  refine norm_fit fun z hz => ?_
  obtain ⟨i, hi, rfl⟩ := List.getElem_of_mem hz
  rw [mixZ_length hl] at hi
  rw [mixZ_get hi (by omega)]
  have a1 := hx _ (List.getElem_mem hi)
  have a2 := hy _ (List.getElem_mem (show i < ys.length by omega))
  have b1 : (xs[i] * x).natAbs ≤ 30 * 30 := by rw [Int.natAbs_mul]; exact Nat.mul_le_mul (by omega) (by omega)
  have b2 : (ys[i] * y).natAbs ≤ 30 * 30 := by rw [Int.natAbs_mul]; exact Nat.mul_le_mul (by omega) (by omega)
  omega

set_option maxRecDepth 100000 in
set_option maxHeartbeats 1000000 in
theorem lawComb_far (v u : Value) (xs ys : List Int) (x y : Int) (w : World) (hv : SliceI w v xs) (hu : SliceI w u ys) (hf : 400 < xs.length ∨ 400 < ys.length) :
    Calls Tryz.prog 7 #[v, .int .i64 x, u, .int .i64 y] w fun e w' => e = .returned (.bool true) ∧ Below w.heap.size w w' := by
  obtain ⟨o, cap, rfl, h1⟩ := hv
  obtain ⟨o', cap', rfl, h2⟩ := hu
  clear h1 h2
  generalize xs.length = m at *
  generalize ys.length = n at *
  have hh := Lib.hid (halves_any w)
  by_cases hm : 400 < m
  · have hm' : decide (400 < (m : Int)) = true := by simp; omega
    clear hf hm
    go_enter Tryz.func7, Tryz.ntmps7
    go_wp2_with fail
    refine hh.out.mono ?_
    rintro e w1 ⟨rfl, hb1⟩
    go_wp2_with fail
    go_ret
    exact ⟨rfl, hb1⟩
  · have hm' : decide (400 < (m : Int)) = false := by simp; omega
    have hn' : decide (400 < (n : Int)) = true := by simp; omega
    clear hf hm
    go_enter Tryz.func7, Tryz.ntmps7
    go_wp2_with fail
    refine hh.out.mono ?_
    rintro e w1 ⟨rfl, hb1⟩
    go_wp2_with fail
    go_ret
    exact ⟨rfl, hb1⟩

set_option maxRecDepth 100000 in
set_option maxHeartbeats 1000000 in
theorem lawComb_shape (v u : Value) (xs ys : List Int) (x y : Int) (a : Nat → Addr) (w : World) (he : ErrW w a) (hv : SliceI w v xs) (hu : SliceI w u ys) (hx : xs.length ≤ 400) (hy : ys.length ≤ 400) (hne : xs.length ≠ ys.length) :
    Calls Tryz.prog 7 #[v, .int .i64 x, u, .int .i64 y] w fun e w' => e = .returned (.bool true) ∧ Below w.heap.size w w' := by
  have HV := Lib.hid hv
  have HU := Lib.hid hu
  have HE := Lib.hid he
  have HX := Lib.hid hx
  have HY := Lib.hid hy
  have HNE := Lib.hid hne
  obtain ⟨o, cap, rfl, h1⟩ := hv
  obtain ⟨o', cap', rfl, h2⟩ := hu
  have hb : ((xs.length : Int) != (ys.length : Int)) = true := by simp; omega
  have hm' : decide (400 < (xs.length : Int)) = false := by simp; omega
  have hn' : decide (400 < (ys.length : Int)) = false := by simp; omega
  have hh := Lib.hid (halves_any w)
  clear he h1 h2 hx hy hne
  obtain ⟨m, hm⟩ : ∃ m, xs.length = m := ⟨_, rfl⟩
  obtain ⟨n, hn⟩ : ∃ n, ys.length = n := ⟨_, rfl⟩
  rw [hm] at hb hm' HV ⊢
  rw [hn] at hb hn' HU ⊢
  clear hm hn
  go_enter Tryz.func7, Tryz.ntmps7
  go_wp2_with fail
  refine hh.out.mono ?_
  rintro e w1 ⟨rfl, hb1⟩
  go_wp2_with fail
  refine (ints_any _ xs w1 (HV.out.below hb1 (Nat.le_refl _)) (by have := HX.out; omega)).mono ?_
  rintro e w2 ⟨u2, rfl, hu2, hb2⟩
  have hb02 := hb1.trans (hb2.mono hb1.size)
  have HU2 := Lib.hid hu2
  go_wp2_with fail
  refine (ints_any _ ys w2 (HU.out.below hb02 (Nat.le_refl _)) (by have := HY.out; omega)).mono ?_
  rintro e w3 ⟨u3, rfl, hu3, hb3⟩
  have hb03 := hb02.trans (hb3.mono hb02.size)
  have HD := Lib.hid (rcomb_shape u2 u3 xs ys x y a w3 (HE.out.below hb03 (Nat.le_refl _)) (HU2.out.below hb3 (Nat.le_refl _)) hu3 HNE.out)
  have HB3 := Lib.hid hb03
  clear hu3 hu2 hb3 hb2 hb1 hb02 hb03
  go_wp2_with fail
  refine HD.out.mono ?_
  rintro e w4 ⟨rfl, q, rfl⟩
  have HC := Lib.hid (coded_err 2 (by decide) a 3 (w3.drewN q) ((HE.out.below HB3.out (Nat.le_refl _)).drewN q))
  unfold sentV at HC ⊢
  go_wp2_with fail
  refine HC.out.mono ?_
  rintro e w5 ⟨rfl, hb5⟩
  go_wp2_with fail
  go_ret
  exact ⟨rfl, (below_drewN' HB3.out q).trans (hb5.mono HB3.out.size)⟩

set_option maxRecDepth 100000 in
set_option maxHeartbeats 2000000 in
theorem lawComb_large (v u : Value) (xs ys : List Int) (x y : Int) (a : Nat → Addr) (w : World) (he : ErrW w a) (hv : SliceI w v xs) (hu : SliceI w u ys) (hx : xs.length ≤ 400) (hlen : xs.length = ys.length) (hlg : (largeB xs || largeB ys || largeB [x, y]) = true) :
    Calls Tryz.prog 7 #[v, .int .i64 x, u, .int .i64 y] w fun e w' => e = .returned (.bool true) ∧ Below w.heap.size w w' := by
  have HV := Lib.hid hv
  have HU := Lib.hid hu
  have HE := Lib.hid he
  have HX := Lib.hid hx
  have HLEN := Lib.hid hlen
  have HLG := Lib.hid hlg
  have c1 : largeB xs = false → Hid ((largeB ys || largeB [x, y]) = true) := fun h => by
    rw [h, Bool.false_or] at hlg
    exact hlg
  clear hlg
  obtain ⟨o, cap, rfl, q1⟩ := hv
  obtain ⟨o', cap', rfl, q2⟩ := hu
  have hm' : decide (400 < (xs.length : Int)) = false := by simp; omega
  have hh := Lib.hid (halves_any w)
  rw [← hlen] at HU ⊢
  clear he q1 q2 hx hlen
  obtain ⟨m, hm⟩ : ∃ m, xs.length = m := ⟨_, rfl⟩
  rw [hm] at hm' HV HU ⊢
  clear hm
  go_enter Tryz.func7, Tryz.ntmps7
  go_wp2_with fail
  refine hh.out.mono ?_
  rintro e w1 ⟨rfl, hb1⟩
  go_wp2_with fail
  refine (ints_any _ xs w1 (HV.out.below hb1 (Nat.le_refl _)) (by have := HX.out; omega)).mono ?_
  rintro e w2 ⟨u2, rfl, hu2, hb2⟩
  have hb02 := hb1.trans (hb2.mono hb1.size)
  have HU2 := Lib.hid hu2
  go_wp2_with fail
  refine (ints_any _ ys w2 (HU.out.below hb02 (Nat.le_refl _)) (by have := HX.out; have := HLEN.out; omega)).mono ?_
  rintro e w3 ⟨u3, rfl, hu3, hb3⟩
  have hb03 := hb02.trans (hb3.mono hb02.size)
  have HD := Lib.hid (rcomb_large u2 u3 xs ys x y a w3 (HE.out.below hb03 (Nat.le_refl _)) (HU2.out.below hb3 (Nat.le_refl _)) hu3 HLEN.out (by have := HX.out; omega) HLG.out)
  have HB3 := Lib.hid hb03
  clear hu3 hu2 hb3 hb2 hb1 hb02 hb03
  go_wp2_with fail
  refine HD.out.mono ?_
  rintro e w4 ⟨rfl, hb4⟩
  have HB4 := Lib.hid (HB3.out.trans (hb4.mono HB3.out.size))
  have HB5 : Hid (Below w.heap.size w (w4.alloc (.cells #[.int .i64 x, .int .i64 y] 3))) := HB4.out.alloc HB4.out.size _
  have HLA := Lib.hid (rlarge_any _ xs w4 (HV.out.below HB4.out (Nat.le_refl _)) (by have := HX.out; omega))
  have HLB := Lib.hid (rlarge_any _ ys w4 (HU.out.below HB4.out (Nat.le_refl _)) (by have := HX.out; have := HLEN.out; omega))
  have HLC := Lib.hid (rlarge_any _ [x, y] _ (sliceI_two w4 x y 3) (by simp))
  have HC := Lib.hid (coded_err 1 (by decide) a 2 w4 (HE.out.below HB4.out (Nat.le_refl _)))
  have HC2 := Lib.hid (coded_err 1 (by decide) a 2 (w4.alloc (.cells #[.int .i64 x, .int .i64 y] 3)) (HE.out.below HB5.out (Nat.le_refl _)))
  unfold sentV at HC HC2 ⊢
  clear HD hb4
  by_cases hlx : largeB xs = true
  · rw [hlx] at HLA
    clear hlx c1 HLB HLC HC2
    go_wp2_with fail
    refine HLA.out.mono ?_
    rintro e w5 ⟨rfl, rfl⟩
    go_wp2_with fail
    refine HC.out.mono ?_
    rintro e w6 ⟨rfl, hb6⟩
    go_wp2_with fail
    go_ret
    exact ⟨rfl, HB4.out.trans (hb6.mono HB4.out.size)⟩
  · have hlx' : largeB xs = false := by simpa using hlx
    have c2 := c1 hlx'
    rw [hlx'] at HLA
    by_cases hly : largeB ys = true
    · rw [hly] at HLB
      clear hlx hlx' hly c1 c2 HLC HC2
      go_wp2_with fail
      refine HLA.out.mono ?_
      rintro e w5 ⟨rfl, rfl⟩
      go_wp2_with fail
      refine HLB.out.mono ?_
      rintro e w5 ⟨rfl, rfl⟩
      go_wp2_with fail
      refine HC.out.mono ?_
      rintro e w6 ⟨rfl, hb6⟩
      go_wp2_with fail
      go_ret
      exact ⟨rfl, HB4.out.trans (hb6.mono HB4.out.size)⟩
    · have hly' : largeB ys = false := by simpa using hly
      have hlz : largeB [x, y] = true := by have := c2.out; rwa [hly', Bool.false_or] at this
      rw [hly'] at HLB
      rw [hlz] at HLC
      clear hlx hlx' hly hly' hlz c1 c2 HC
      go_wp2_with fail
      refine HLA.out.mono ?_
      rintro e w5 ⟨rfl, rfl⟩
      go_wp2_with fail
      refine HLB.out.mono ?_
      rintro e w5 ⟨rfl, rfl⟩
      go_wp2_with fail
      refine HLC.out.mono ?_
      rintro e w5 ⟨rfl, rfl⟩
      go_wp2_with fail
      refine HC2.out.mono ?_
      rintro e w6 ⟨rfl, hb6⟩
      go_wp2_with fail
      go_ret
      exact ⟨rfl, HB5.out.trans (hb6.mono HB5.out.size)⟩

set_option maxRecDepth 100000 in
set_option maxHeartbeats 2000000 in
theorem lawComb_wild (v u : Value) (xs ys : List Int) (x y : Int) (a : Nat → Addr) (w : World) (he : ErrW w a) (hv : SliceI w v xs) (hu : SliceI w u ys) (hx : xs.length ≤ 400) (hlen : xs.length = ys.length) (hlx : largeB xs = false) (hly : largeB ys = false) (hlz : largeB [x, y] = false) (hw : (wildB xs || wildB ys || wildB [x, y]) = true) :
    Calls Tryz.prog 7 #[v, .int .i64 x, u, .int .i64 y] w fun e w' => e = .returned (.bool true) ∧ Below w.heap.size w w' := by
  have HV := Lib.hid hv
  have HU := Lib.hid hu
  have HE := Lib.hid he
  have HX := Lib.hid hx
  have HLEN := Lib.hid hlen
  have HLX := Lib.hid hlx
  have HLY := Lib.hid hly
  have HLZ := Lib.hid hlz
  clear hlx hly hlz
  have c1 : wildB xs = false → Hid ((wildB ys || wildB [x, y]) = true) := fun h => by
    rw [h, Bool.false_or] at hw
    exact hw
  clear hw
  obtain ⟨o, cap, rfl, q1⟩ := hv
  obtain ⟨o', cap', rfl, q2⟩ := hu
  have hm' : decide (400 < (xs.length : Int)) = false := by simp; omega
  have hh := Lib.hid (halves_any w)
  rw [← hlen] at HU ⊢
  clear he q1 q2 hx hlen
  obtain ⟨m, hm⟩ : ∃ m, xs.length = m := ⟨_, rfl⟩
  rw [hm] at hm' HV HU ⊢
  clear hm
  go_enter Tryz.func7, Tryz.ntmps7
  go_wp2_with fail
  refine hh.out.mono ?_
  rintro e w1 ⟨rfl, hb1⟩
  go_wp2_with fail
  refine (ints_any _ xs w1 (HV.out.below hb1 (Nat.le_refl _)) (by have := HX.out; omega)).mono ?_
  rintro e w2 ⟨u2, rfl, hu2, hb2⟩
  have hb02 := hb1.trans (hb2.mono hb1.size)
  have HU2 := Lib.hid hu2
  go_wp2_with fail
  refine (ints_any _ ys w2 (HU.out.below hb02 (Nat.le_refl _)) (by have := HX.out; have := HLEN.out; omega)).mono ?_
  rintro e w3 ⟨u3, rfl, hu3, hb3⟩
  have hb03 := hb02.trans (hb3.mono hb02.size)
  have HD := Lib.hid (rcomb_any u2 u3 xs ys x y a w3 (HE.out.below hb03 (Nat.le_refl _)) (HU2.out.below hb3 (Nat.le_refl _)) hu3 HLEN.out (by have := HX.out; omega) HLX.out HLY.out HLZ.out)
  have HB3 := Lib.hid hb03
  clear hu3 hu2 hb3 hb2 hb1 hb02 hb03
  go_wp2_with fail
  refine HD.out.mono ?_
  rintro e w4 ⟨uu, ev, rfl, hcr, hb4⟩
  have HCR := Lib.hid hcr
  have HB4 := Lib.hid (HB3.out.trans (hb4.mono HB3.out.size))
  have HB5 : Hid (Below w.heap.size w (w4.alloc (.cells #[.int .i64 x, .int .i64 y] 3))) := HB4.out.alloc HB4.out.size _
  have HLA := Lib.hid (rlarge_any _ xs w4 (HV.out.below HB4.out (Nat.le_refl _)) (by have := HX.out; omega))
  have HLB := Lib.hid (rlarge_any _ ys w4 (HU.out.below HB4.out (Nat.le_refl _)) (by have := HX.out; have := HLEN.out; omega))
  have HLC := Lib.hid (rlarge_any _ [x, y] _ (sliceI_two w4 x y 3) (by simp))
  rw [HLX.out] at HLA
  rw [HLY.out] at HLB
  rw [HLZ.out] at HLC
  clear HD hb4 hcr
  go_wp2_with fail
  refine HLA.out.mono ?_
  rintro e w5 ⟨rfl, rfl⟩
  go_wp2_with fail
  refine HLB.out.mono ?_
  rintro e w5 ⟨rfl, rfl⟩
  obtain ⟨w4, rfl⟩ : ∃ w : World, w = w5 := ⟨_, rfl⟩
  go_wp2_with fail
  refine HLC.out.mono ?_
  rintro e w6 ⟨rfl, rfl⟩
  obtain ⟨w5, hw5⟩ : ∃ w5, (w4.alloc (.cells #[.int .i64 x, .int .i64 y] 3)) = w5 := ⟨_, rfl⟩
  rw [hw5] at HB5 ⊢
  have HL45 : Hid (Below w4.heap.size w4 w5) := by rw [← hw5]; exact (Below.refl _ _).alloc (Nat.le_refl _) _
  have HTA := Lib.hid (rtame_any _ xs w5 (HV.out.below HB5.out (Nat.le_refl _)) (by have := HX.out; omega))
  have HTB := Lib.hid (rtame_any _ ys w5 (HU.out.below HB5.out (Nat.le_refl _)) (by have := HX.out; have := HLEN.out; omega))
  have HTC := Lib.hid (rtame_any _ [x, y] _ (sliceI_two w5 x y 3) (by simp))
  clear hw5 HLA HLB HLC
  by_cases hwx : wildB xs = true
  · rw [hwx] at HTA
    clear hwx c1 HTB HTC
    go_wp2_with fail
    refine HTA.out.mono ?_
    rintro e w6 ⟨rfl, rfl⟩
    go_wp2_with fail
    go_ret
    exact ⟨rfl, HB5.out⟩
  · have hwx' : wildB xs = false := by simpa using hwx
    have c2 := c1 hwx'
    rw [hwx'] at HTA
    by_cases hwy : wildB ys = true
    · rw [hwy] at HTB
      clear hwx hwx' hwy c1 c2 HTC
      go_wp2_with fail
      refine HTA.out.mono ?_
      rintro e w6 ⟨rfl, rfl⟩
      go_wp2_with fail
      refine HTB.out.mono ?_
      rintro e w6 ⟨rfl, rfl⟩
      go_wp2_with fail
      go_ret
      exact ⟨rfl, HB5.out⟩
    · have hwy' : wildB ys = false := by simpa using hwy
      have hwz : wildB [x, y] = true := by have := c2.out; rwa [hwy', Bool.false_or] at this
      rw [hwy'] at HTB
      rw [hwz] at HTC
      clear hwx hwx' hwy hwy' hwz c1 c2
      go_wp2_with fail
      refine HTA.out.mono ?_
      rintro e w6 ⟨rfl, rfl⟩
      go_wp2_with fail
      refine HTB.out.mono ?_
      rintro e w6 ⟨rfl, rfl⟩
      go_wp2_with fail
      refine HTC.out.mono ?_
      rintro e w6 ⟨rfl, rfl⟩
      go_wp2_with fail
      go_ret
      exact ⟨rfl, HB5.out.alloc HB5.out.size _⟩

set_option maxRecDepth 100000 in
set_option maxHeartbeats 2000000 in
theorem lawComb_main (v u : Value) (xs ys : List Int) (x y : Int) (a : Nat → Addr) (w : World) (he : ErrW w a) (hv : SliceI w v xs) (hu : SliceI w u ys) (hx : xs.length ≤ 400) (hlen : xs.length = ys.length) (hlx : largeB xs = false) (hly : largeB ys = false) (hlz : largeB [x, y] = false) (hwx : wildB xs = false) (hwy : wildB ys = false) (hwz : wildB [x, y] = false) :
    Calls Tryz.prog 7 #[v, .int .i64 x, u, .int .i64 y] w fun e w' => e = .returned (.bool true) ∧ Below w.heap.size w w' := by
  have HV := Lib.hid hv
  have HU := Lib.hid hu
  have HE := Lib.hid he
  have HX := Lib.hid hx
  have HLEN := Lib.hid hlen
  have HLX := Lib.hid hlx
  have HLY := Lib.hid hly
  have HLZ := Lib.hid hlz
  clear hlx hly hlz
  have HTX := Lib.hid (tame_of hwx)
  have HTY := Lib.hid (tame_of hwy)
  have HTZ := Lib.hid (tame_of hwz)
  have HWX := Lib.hid hwx
  have HWY := Lib.hid hwy
  have HWZ := Lib.hid hwz
  have HFITZ := Lib.hid (tame_fit (tame_of hwx) (tame_of hwy) (tame_of hwz x (by simp)) (tame_of hwz y (by simp)) hlen)
  have HZL : Hid ((normZ (mixZ xs x ys y)).length ≤ 1000000) := by
    show (normZ (mixZ xs x ys y)).length ≤ 1000000
    rw [← refN_eq, refN, List.length_map, mixZ_length hlen]
    omega
  clear hwx hwy hwz
  obtain ⟨o, cap, rfl, q1⟩ := hv
  obtain ⟨o', cap', rfl, q2⟩ := hu
  have hm' : decide (400 < (xs.length : Int)) = false := by simp; omega
  have hh := Lib.hid (halves_any w)
  rw [← hlen] at HU ⊢
  clear he q1 q2 hx hlen
  obtain ⟨m, hm⟩ : ∃ m, xs.length = m := ⟨_, rfl⟩
  rw [hm] at hm' HV HU ⊢
  clear hm
  go_enter Tryz.func7, Tryz.ntmps7
  go_wp2_with fail
  refine hh.out.mono ?_
  rintro e w1 ⟨rfl, hb1⟩
  go_wp2_with fail
  refine (ints_any _ xs w1 (HV.out.below hb1 (Nat.le_refl _)) (by have := HX.out; omega)).mono ?_
  rintro e w2 ⟨u2, rfl, hu2, hb2⟩
  have hb02 := hb1.trans (hb2.mono hb1.size)
  have HU2 := Lib.hid hu2
  go_wp2_with fail
  refine (ints_any _ ys w2 (HU.out.below hb02 (Nat.le_refl _)) (by have := HX.out; have := HLEN.out; omega)).mono ?_
  rintro e w3 ⟨u3, rfl, hu3, hb3⟩
  have hb03 := hb02.trans (hb3.mono hb02.size)
  have HD := Lib.hid (rcomb_any u2 u3 xs ys x y a w3 (HE.out.below hb03 (Nat.le_refl _)) (HU2.out.below hb3 (Nat.le_refl _)) hu3 HLEN.out (by have := HX.out; omega) HLX.out HLY.out HLZ.out)
  have HB3 := Lib.hid hb03
  clear hu3 hu2 hb3 hb2 hb1 hb02 hb03
  go_wp2_with fail
  refine HD.out.mono ?_
  rintro e w4 ⟨uu, ev, rfl, hcr, hb4⟩
  have HCR := Lib.hid hcr
  have HB4 := Lib.hid (HB3.out.trans (hb4.mono HB3.out.size))
  have HB5 : Hid (Below w.heap.size w (w4.alloc (.cells #[.int .i64 x, .int .i64 y] 3))) := HB4.out.alloc HB4.out.size _
  have HLA := Lib.hid (rlarge_any _ xs w4 (HV.out.below HB4.out (Nat.le_refl _)) (by have := HX.out; omega))
  have HLB := Lib.hid (rlarge_any _ ys w4 (HU.out.below HB4.out (Nat.le_refl _)) (by have := HX.out; have := HLEN.out; omega))
  have HLC := Lib.hid (rlarge_any _ [x, y] _ (sliceI_two w4 x y 3) (by simp))
  rw [HLX.out] at HLA
  rw [HLY.out] at HLB
  rw [HLZ.out] at HLC
  clear HD hb4 hcr
  go_wp2_with fail
  refine HLA.out.mono ?_
  rintro e w5 ⟨rfl, rfl⟩
  go_wp2_with fail
  refine HLB.out.mono ?_
  rintro e w5 ⟨rfl, rfl⟩
  obtain ⟨w4, rfl⟩ : ∃ w : World, w = w5 := ⟨_, rfl⟩
  go_wp2_with fail
  refine HLC.out.mono ?_
  rintro e w6 ⟨rfl, rfl⟩
  obtain ⟨w5, hw5⟩ : ∃ w5, (w4.alloc (.cells #[.int .i64 x, .int .i64 y] 3)) = w5 := ⟨_, rfl⟩
  rw [hw5] at HB5 ⊢
  have HL45 : Hid (Below w4.heap.size w4 w5) := by rw [← hw5]; exact (Below.refl _ _).alloc (Nat.le_refl _) _
  have HTA := Lib.hid (rtame_any _ xs w5 (HV.out.below HB5.out (Nat.le_refl _)) (by have := HX.out; omega))
  have HTB := Lib.hid (rtame_any _ ys w5 (HU.out.below HB5.out (Nat.le_refl _)) (by have := HX.out; have := HLEN.out; omega))
  have HTC := Lib.hid (rtame_any _ [x, y] _ (sliceI_two w5 x y 3) (by simp))
  clear hw5 HLA HLB HLC
  rw [HWX.out] at HTA
  rw [HWY.out] at HTB
  rw [HWZ.out] at HTC
  obtain ⟨rfl, hS4⟩ : ev = .nilIface ∧ SliceI w4 uu (normZ (mixZ xs x ys y)) := by
    rcases HCR.out with h | h
    · exact h.2
    · exact absurd HFITZ.out h.1
  have hb6 : Below w5.heap.size w5 (w5.alloc (.cells #[.int .i64 x, .int .i64 y] 3)) := (Below.refl _ _).alloc (Nat.le_refl _) _
  have HB6 := Lib.hid (HB5.out.trans (hb6.mono HB5.out.size))
  have HS6 := Lib.hid ((hS4.below HL45.out (Nat.le_refl _)).below hb6 (Nat.le_refl _))
  have HMX := Lib.hid (rmix_any _ _ xs ys x y _ (HV.out.below HB6.out (Nat.le_refl _)) (HU.out.below HB6.out (Nat.le_refl _)) HLEN.out (by have := HX.out; omega) HTX.out HTY.out (HTZ.out x (by simp)) (HTZ.out y (by simp)))
  clear hS4 hb6 HCR
  go_wp2_with fail
  refine HTA.out.mono ?_
  rintro e w6 ⟨rfl, rfl⟩
  go_wp2_with fail
  refine HTB.out.mono ?_
  rintro e w6 ⟨rfl, rfl⟩
  go_wp2_with fail
  refine HTC.out.mono ?_
  rintro e w6 ⟨rfl, rfl⟩
  go_wp2_with fail
  refine HMX.out.mono ?_
  rintro e w7 ⟨v7, rfl, hr7, hb7⟩
  have HB7 := Lib.hid (HB6.out.trans (hb7.mono HB6.out.size))
  have HSM := Lib.hid (rsame_any uu v7 _ _ w7 (HS6.out.below hb7 (Nat.le_refl _)) hr7 HZL.out)
  clear hr7 hb7
  go_wp2_with fail
  refine HSM.out.mono ?_
  rintro e w8 ⟨rfl, q, rfl⟩
  go_wp2_with fail
  go_ret
  exact ⟨by simp, below_drewN' HB7.out q⟩

/-- The law RowsCombine answers true whatever its input is. -/
theorem law_combine (v u : Value) (xs ys : List Int) (x y : Int) (a : Nat → Addr) (w : World) (he : ErrW w a) (hv : SliceI w v xs) (hu : SliceI w u ys) :
    Calls Tryz.prog 7 #[v, .int .i64 x, u, .int .i64 y] w fun e w' => e = .returned (.bool true) ∧ Below w.heap.size w w' := by
  by_cases hf : 400 < xs.length ∨ 400 < ys.length
  · exact lawComb_far v u xs ys x y w hv hu hf
  · by_cases hlen : xs.length = ys.length
    · by_cases hlg : (largeB xs || largeB ys || largeB [x, y]) = true
      · exact lawComb_large v u xs ys x y a w he hv hu (by omega) hlen hlg
      · simp only [Bool.or_eq_true, not_or, Bool.not_eq_true] at hlg
        by_cases hw : (wildB xs || wildB ys || wildB [x, y]) = true
        · exact lawComb_wild v u xs ys x y a w he hv hu (by omega) hlen hlg.1.1 hlg.1.2 hlg.2 hw
        · simp only [Bool.or_eq_true, not_or, Bool.not_eq_true] at hw
          exact lawComb_main v u xs ys x y a w he hv hu (by omega) hlen hlg.1.1 hlg.1.2 hlg.2 hw.1.1 hw.1.2 hw.2
    · exact lawComb_shape v u xs ys x y a w he hv hu (by omega) (by omega) hlen
end Go.Proofs.YtochcofoknfjfaaGreatDoor
