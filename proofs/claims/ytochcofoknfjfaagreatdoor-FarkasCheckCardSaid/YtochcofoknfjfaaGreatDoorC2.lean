/- Walk: rows.Combine. -/
import Derived.Test.YtochcofoknfjfaaGreatDoorDC
import Derived.Test.YtochcofoknfjfaaGreatDoorD23
import Derived.Test.YtochcofoknfjfaaGreatDoorR234
namespace Go.Proofs.YtochcofoknfjfaaGreatDoor
open Go Go.RowKit Nt

theorem heap_new (w : World) (o : Obj) : (w.alloc o).heap[w.heap.size]? = some o := by
  show (w.heap.push _)[w.heap.size]? = _
  simp
theorem sliceI_lit {w : World} {b cap : Nat} {cs : Array Value} {t : TypeId} {zs : List Int} (h : w.heap[b]? = some (.cells cs t (0, 0))) (hc : cs.toList = zs.map (Value.int .i64)) : SliceI w (.slice (some ⟨b, 0, none⟩) zs.length cap) zs :=
  ⟨_, cap, rfl, fun _ => ⟨b, 0, rfl, heap_lt h, fun i hi => by
    have e : cs[i]? = some (.int .i64 zs[i]) := by
      rw [← Array.getElem?_toList, hc, List.getElem?_map, List.getElem?_eq_getElem hi]; rfl
    simp [World.cell?, h, e]⟩⟩
/-- A new slice of two numbers. -/
theorem sliceI_two (w : World) (x y : Int) (t : TypeId) : SliceI (w.alloc (.cells #[.int .i64 x, .int .i64 y] t)) (.slice (some ⟨w.heap.size, 0, none⟩) 2 2) [x, y] :=
  sliceI_lit (cap := 2) (zs := [x, y]) (heap_new w _) rfl

set_option maxRecDepth 100000 in
set_option maxHeartbeats 1000000 in
theorem rcomb_shape (v u : Value) (xs ys : List Int) (x y : Int) (a : Nat → Addr) (w : World) (he : ErrW w a) (hv : SliceI w v xs) (hu : SliceI w u ys) (hne : xs.length ≠ ys.length) :
    Calls Tryz.prog 29 #[v, .int .i64 x, u, .int .i64 y] w fun e w' => e = .returned (.tuple #[.slice none 0 0, sentV a 2]) ∧ ∃ q, w' = w.drewN q := by
  obtain ⟨o, cap, rfl, hcv⟩ := hv
  obtain ⟨o', cap', rfl, hcu⟩ := hu
  clear hcv hcu
  have hb : ((xs.length : Int) != (ys.length : Int)) = true := by simp; omega
  have hg : w.cell? ⟨0, 0, none⟩ = some (.iface 320 (.pointer (some (a 2)))) := he.var 2 (by decide)
  clear he hne
  generalize xs.length = m at *
  generalize ys.length = n at *
  go_enter Tryz.func29, Tryz.ntmps29
  go_wp2_with fail
  go_quiet (fail)
  go_wp2_with fail
  go_ret2
  exact ⟨rfl, _, rfl⟩

set_option maxRecDepth 100000 in
set_option maxHeartbeats 1000000 in
theorem rcomb_large (v u : Value) (xs ys : List Int) (x y : Int) (a : Nat → Addr) (w : World) (he : ErrW w a) (hv : SliceI w v xs) (hu : SliceI w u ys) (hlen : xs.length = ys.length) (hl : xs.length ≤ 1000000) (hlg : (largeB xs || largeB ys || largeB [x, y]) = true) :
    Calls Tryz.prog 29 #[v, .int .i64 x, u, .int .i64 y] w fun e w' => e = .returned (.tuple #[.slice none 0 0, sentV a 1]) ∧ Below w.heap.size w w' := by
  have HX := Lib.hid (large_any v xs w hv hl)
  have HY := Lib.hid (large_any u ys w hu (by omega))
  have HZ := Lib.hid (large_any _ [x, y] _ (sliceI_two w x y 3) (by simp))
  have HE := Lib.hid he
  obtain ⟨o, cap, rfl, hcv⟩ := hv
  obtain ⟨o', cap', rfl, hcu⟩ := hu
  have hg : w.cell? ⟨1, 0, none⟩ = some (.iface 320 (.pointer (some (a 1)))) := he.var 1 (by decide)
  rw [← hlen] at HY ⊢
  clear he hlen hcv hcu
  generalize xs.length = m at *
  by_cases hx : largeB xs = true
  · rw [hx] at HX
    clear hlg hx HY HZ
    go_enter Tryz.func29, Tryz.ntmps29
    go_wp2_with fail
    refine HX.out.mono ?_
    rintro e w1 ⟨rfl, rfl⟩
    go_wp2_with fail
    go_quiet (fail)
    go_wp2_with fail
    go_ret2
    exact ⟨rfl, below_drewN' (Below.refl _ _) _⟩
  · have hx' : largeB xs = false := by simpa using hx
    rw [hx'] at HX
    by_cases hy : largeB ys = true
    · rw [hy] at HY
      clear hlg hx hx' hy HZ
      go_enter Tryz.func29, Tryz.ntmps29
      go_wp2_with fail
      refine HX.out.mono ?_
      rintro e w1 ⟨rfl, rfl⟩
      go_wp2_with fail
      refine HY.out.mono ?_
      rintro e w1 ⟨rfl, rfl⟩
      go_wp2_with fail
      go_quiet (fail)
      go_wp2_with fail
      go_ret2
      exact ⟨rfl, below_drewN' (Below.refl _ _) _⟩
    · have hy' : largeB ys = false := by simpa using hy
      have hz : largeB [x, y] = true := by simpa [hx', hy'] using hlg
      rw [hy'] at HY
      rw [hz] at HZ
      have hb1 : Below w.heap.size w (w.alloc (.cells #[.int .i64 x, .int .i64 y] 3)) := (Below.refl _ _).alloc (Nat.le_refl _) _
      have hg1 := cell_below hb1 (Nat.le_refl _) hg
      have HB1 := Lib.hid hb1
      clear hlg hx hx' hy hy' hz hg hb1
      go_enter Tryz.func29, Tryz.ntmps29
      go_wp2_with fail
      refine HX.out.mono ?_
      rintro e w1 ⟨rfl, rfl⟩
      go_wp2_with fail
      refine HY.out.mono ?_
      rintro e w1 ⟨rfl, rfl⟩
      go_wp2_with fail
      refine HZ.out.mono ?_
      rintro e w1 ⟨rfl, rfl⟩
      go_wp2_with fail
      go_quiet (fail)
      go_wp2_with fail
      go_ret2
      exact ⟨rfl, below_drewN' HB1.out _⟩

/-- What rows.Combine gives of two rows of one length, no number of which is large: the row z, or the bound's error. -/
def CombRes (w : World) (a : Nat → Addr) (z : List Int) (e : Ending) (w' : World) : Prop :=
  ∃ u ev, e = .returned (.tuple #[u, ev]) ∧ ((Fit z ∧ ev = .nilIface ∧ SliceI w' u z) ∨ (¬ Fit z ∧ ev = sentV a 1 ∧ u = .slice none 0 0)) ∧ Below w.heap.size w w'

theorem half_two {x y : Int} (h : largeB [x, y] = false) : x.natAbs ≤ 2147483648 ∧ y.natAbs ≤ 2147483648 := ⟨half_of h x (by simp), half_of h y (by simp)⟩
theorem not_fit {z : List Int} (h : ¬ Fit z) : ∃ i, ∃ h : i < z.length, 4611686018427387904 < z[i].natAbs := by
  refine Classical.byContradiction fun hn => h fun x hx => ?_
  obtain ⟨i, hi, rfl⟩ := List.getElem_of_mem hx
  refine Nat.le_of_not_lt fun hlt => hn ⟨i, hi, hlt⟩

set_option maxRecDepth 100000 in
set_option maxHeartbeats 2000000 in
theorem rcomb_any (v u : Value) (xs ys : List Int) (x y : Int) (a : Nat → Addr) (w : World) (he : ErrW w a) (hv : SliceI w v xs) (hu : SliceI w u ys) (hlen : xs.length = ys.length) (hl : xs.length ≤ 1000000) (hx : largeB xs = false) (hy : largeB ys = false) (hxy : largeB [x, y] = false) :
    Calls Tryz.prog 29 #[v, .int .i64 x, u, .int .i64 y] w (CombRes w a (normZ (mixZ xs x ys y))) := by
  have HX := Lib.hid (large_any v xs w hv hl)
  have HY := Lib.hid (large_any u ys w hu (by omega))
  have HZ := Lib.hid (large_any _ [x, y] _ (sliceI_two w x y 3) (by simp))
  rw [hx] at HX
  rw [hy] at HY
  rw [hxy] at HZ
  have hfx := half_of hx
  have hfy := half_of hy
  obtain ⟨h1, h2⟩ := half_two hxy
  have hb0 : Below w.heap.size w (w.alloc (.cells #[.int .i64 x, .int .i64 y] 3)) := (Below.refl _ _).alloc (Nat.le_refl _) _
  have HO1 := Lib.hid (of_any v xs _ (hv.below hb0 (Nat.le_refl _)) (fun z hz => by have := hfx z hz; omega) hl)
  have HB0 := Lib.hid hb0
  have HU := Lib.hid hu
  have HE := Lib.hid he
  have HFX := Lib.hid hfx
  have HFY := Lib.hid hfy
  obtain ⟨o, cap, rfl, hcv⟩ := hv
  obtain ⟨o', cap', rfl, hcu⟩ := hu
  obtain ⟨n, hn⟩ : ∃ n, xs.length = n := ⟨_, rfl⟩
  have HN := Lib.hid hn
  have HNY := Lib.hid (hlen.symm.trans hn)
  have HLEN := Lib.hid hlen
  obtain ⟨zs, hzs⟩ : ∃ zs, normZ (mixZ xs x ys y) = zs := ⟨_, rfl⟩
  have HZS := Lib.hid hzs
  have hlz : zs.length = n := by
    rw [← hzs, ← refN_eq, refN, List.length_map, mixZ_length hlen, hn]
  have HLZ := Lib.hid hlz
  rw [hzs]
  rw [show ys.length = n from hlen.symm.trans hn] at HY HU ⊢
  rw [hn] at HX HO1 hl ⊢
  clear he hlen hx hy hxy hfx hfy hn hcv hcu hzs hlz hb0
  have hx1 : -2147483648 ≤ x := by omega
  have hx2 : x ≤ 2147483648 := by omega
  have hy1 : -2147483648 ≤ y := by omega
  have hy2 : y ≤ 2147483648 := by omega
  clear h1 h2
  go_enter Tryz.func29, Tryz.ntmps29
  go_wp2_with fail
  refine HX.out.mono ?_
  rintro e w1 ⟨rfl, rfl⟩
  go_wp2_with fail
  refine HY.out.mono ?_
  rintro e w1 ⟨rfl, rfl⟩
  go_wp2_with fail
  refine HZ.out.mono ?_
  rintro e w1 ⟨rfl, rfl⟩
  go_wp2_with fail
  refine HO1.out.mono ?_
  rintro e w1 ⟨va, rfl, ⟨ps, ha⟩, hb1⟩
  have hb01 := HB0.out.trans (hb1.mono HB0.out.size)
  have HA := Lib.hid ha
  have HB1 := Lib.hid hb01
  clear ha hb1 hb01 HX HY HZ HO1
  go_wp2_with fail
  refine (newInt_any x w1 (by omega) (by omega)).mono ?_
  rintro e w2 ⟨bX, Sx, rfl, hX, hSx, hb2⟩
  have hb02 := HB1.out.trans (hb2.mono HB1.out.size)
  have HO2 := Lib.hid (of_any _ ys w2 (HU.out.below hb02 (Nat.le_refl _)) (fun z hz => by have := HFY.out z hz; omega) (by have := HNY.out; omega))
  have HA2 := Lib.hid (HA.out.below hb2 (Nat.le_refl _))
  have HX := Lib.hid hX
  have HB2 := Lib.hid hb02
  have HNX : Hid (∀ i p, i < xs.length → ps[i]? = some p → p ≠ .pointer (some ⟨bX, 0, none⟩)) := fun i p hi h1 e => by
    obtain ⟨b, rfl, _, h3⟩ := row_ptr_lt HA.out hi h1
    have hm : bX ∈ Sx := by obtain ⟨_, _, _, _, rfl⟩ := hX; simp
    have := hSx _ hm
    simp only [Value.pointer.injEq, Option.some.injEq, Addr.mk.injEq, and_true] at e
    omega
  clear hX hSx hb2 hb02 HU
  go_wp2_with fail
  refine HO2.out.mono ?_
  rintro e w3 ⟨vb, rfl, ⟨qs, hb⟩, hb3⟩
  have hb03 := HB2.out.trans (hb3.mono HB2.out.size)
  have HA3 := Lib.hid (HA2.out.below hb3 (Nat.le_refl _))
  have HX3 := Lib.hid (HX.out.below hb3 HX.out.lt)
  have HB := Lib.hid hb
  have HB3 := Lib.hid hb03
  clear hb hb3 hb03 HO2 HA2 HX HA
  go_wp2_with fail
  refine (newInt_any y w3 (by omega) (by omega)).mono ?_
  rintro e w4 ⟨bY, Sy, rfl, hY, hSy, hb4⟩
  have hb04 := HB3.out.trans (hb4.mono HB3.out.size)
  have HNY' : ∀ i p, i < ys.length → qs[i]? = some p → p ≠ .pointer (some ⟨bY, 0, none⟩) := fun i p hi h1 e => by
    obtain ⟨b, rfl, _, h3⟩ := row_ptr_lt HB.out hi h1
    have hm : bY ∈ Sy := by obtain ⟨_, _, _, _, rfl⟩ := hY; simp
    have := hSy _ hm
    simp only [Value.pointer.injEq, Option.some.injEq, Addr.mk.injEq, and_true] at e
    omega
  have HMX := Lib.hid (mix_any va vb xs ys ps qs _ _ bX bY x y Sx Sy w4 (HA3.out.below hb4 (Nat.le_refl _)) (HB.out.below hb4 (Nat.le_refl _)) (HX3.out.below hb4 HX3.out.lt) hY HLEN.out HNX.out HNY' HFX.out HFY.out (by omega) (by omega) (by have := HN.out; omega))
  rw [HZS.out] at HMX
  have HB4 := Lib.hid hb04
  clear HNY' hY hSy hb4 hb04 HA3 HX3 HB HNX
  go_wp2_with fail
  refine HMX.out.mono ?_
  rintro e w5 ⟨v5, rfl, hr5, hb5⟩
  have hb05 := HB4.out.trans (hb5.mono HB4.out.size)
  obtain ⟨o5, cap5, rfl⟩ : ∃ o c, v5 = .slice o zs.length c := by
    obtain ⟨ps5, h5⟩ := hr5
    obtain ⟨o, c, e, _⟩ := h5.form
    exact ⟨o, c, e⟩
  have HR5 : ∀ o, Hid (RowAt (w5.alloc o) w4.heap.size (.slice o5 zs.length cap5) zs) := fun o => hr5.below ((Below.refl _ _).alloc (Nat.le_refl _) o) (Nat.le_refl _)
  have HB5 := Lib.hid hb05
  clear hr5 hb5 hb05 HMX
  by_cases hfit : Fit zs
  · have HT := Lib.hid (told_one w5.heap.size 1 _ zs _ (w5.alloc (.cells #[.slice o5 zs.length cap5] 63)) (by simp) (by simp) (HR5 _).out hfit (by have := HLZ.out; omega))
    have HFIT := Lib.hid hfit
    clear hfit HR5
    go_wp2_with fail
    refine HT.out.mono ?_
    rintro e w6 ⟨ot, ct, bl, cl, csl, rfl, hcell, hblk, hsz, hcs, hol, hbl, hot, hb6⟩
    have hb06 : Below w.heap.size w w6 := (HB5.out.alloc HB5.out.size _).trans (hb6.mono (by have := HB5.out.size; simp; omega))
    have hS : SliceI w6 (.slice (some ⟨bl, 0, none⟩) zs.length cl) zs := ⟨_, cl, rfl, fun _ => ⟨bl, 0, rfl, hblk.lt, fun i hi => by rw [Nat.zero_add, hblk.cell]; exact hcs i hi⟩⟩
    rw [HLZ.out] at hcell hS
    have HS := Lib.hid hS
    have HB6 := Lib.hid hb06
    clear hb6 hb06 hblk hsz hcs hol hbl hS HT
    go_wp2_with fail
    go_ret2
    exact ⟨_, _, rfl, .inl ⟨HFIT.out, rfl, HS.out⟩, HB6.out⟩
  · have HT := Lib.hid (told_no w5.heap.size 1 _ zs _ (w5.alloc (.cells #[.slice o5 zs.length cap5] 63)) (by simp) (by simp) (HR5 _).out (not_fit hfit) (by have := HLZ.out; omega))
    have HFIT := Lib.hid hfit
    clear hfit HR5
    go_wp2_with fail
    refine HT.out.mono ?_
    rintro e w6 ⟨rfl, hb6⟩
    have hb06 : Below w.heap.size w w6 := (HB5.out.alloc HB5.out.size _).trans (hb6.mono (by have := HB5.out.size; simp; omega))
    have hg : w6.cell? ⟨1, 0, none⟩ = some (.iface 320 (.pointer (some (a 1)))) := (HE.out.below hb06 (Nat.le_refl _)).var 1 (by decide)
    have HB6 := Lib.hid hb06
    clear hb6 hb06 HT
    go_wp2_with fail
    go_quiet (fail)
    go_wp2_with fail
    go_ret2
    exact ⟨_, _, rfl, .inr ⟨HFIT.out, rfl, rfl⟩, below_drewN' HB6.out _⟩
end Go.Proofs.YtochcofoknfjfaaGreatDoor
