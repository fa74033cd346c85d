/- Walk: the law RowsDot. -/
import Derived.Test.YtochcofoknfjfaaGreatDoorD3
import Derived.Test.YtochcofoknfjfaaGreatDoorR4
namespace Go.Proofs.YtochcofoknfjfaaGreatDoor
open Go Go.RowKit Nt

set_option maxRecDepth 100000 in
set_option maxHeartbeats 1000000 in
theorem lawDot_far (v u : Value) (xs ys : List Int) (w : World) (hv : SliceI w v xs) (hu : SliceI w u ys) (hf : 400 < xs.length ∨ 400 < ys.length) :
    Calls Tryz.prog 6 #[v, u] w fun e w' => e = .returned (.bool true) ∧ Below w.heap.size w w' := by
  obtain ⟨o, cap, rfl, h1⟩ := hv
  obtain ⟨o', cap', rfl, h2⟩ := hu
  clear h1 h2
  generalize xs.length = m at *
  generalize ys.length = n at *
  have hh := Lib.hid (halves_any w)
  by_cases hm : 400 < m
  · have hm' : decide (400 < (m : Int)) = true := by simp; omega
    clear hf hm
    go_enter Tryz.func6, Tryz.ntmps6
    go_wp2_with fail
    refine hh.out.mono ?_
    rintro e w1 ⟨rfl, hb1⟩
    go_wp2_with fail
    go_ret
    exact ⟨rfl, hb1⟩
  · have hm' : decide (400 < (m : Int)) = false := by simp; omega
    have hn' : decide (400 < (n : Int)) = true := by simp; omega
    clear hf hm
    go_enter Tryz.func6, Tryz.ntmps6
    go_wp2_with fail
    refine hh.out.mono ?_
    rintro e w1 ⟨rfl, hb1⟩
    go_wp2_with fail
    go_ret
    exact ⟨rfl, hb1⟩

/-- What stands behind the two copies. -/
def Copies (w : World) (xs ys : List Int) (p q : Value) (w' : World) : Prop := SliceI w' p xs ∧ SliceI w' q ys ∧ Below w.heap.size w w'

set_option maxRecDepth 100000 in
set_option maxHeartbeats 1000000 in
theorem lawDot_shape (v u : Value) (xs ys : List Int) (a : Nat → Addr) (w : World) (he : ErrW w a) (hv : SliceI w v xs) (hu : SliceI w u ys) (hx : xs.length ≤ 400) (hy : ys.length ≤ 400) (hne : xs.length ≠ ys.length) :
    Calls Tryz.prog 6 #[v, u] w fun e w' => e = .returned (.bool true) ∧ Below w.heap.size w w' := by
  have HV := Lib.hid hv
  have HU := Lib.hid hu
  have HE := Lib.hid he
  have HX := Lib.hid hx
  have HY := Lib.hid hy
  have HNE := Lib.hid hne
  obtain ⟨o, cap, rfl, h1⟩ := hv
  obtain ⟨o', cap', rfl, h2⟩ := hu
  have hb : ((xs.length : Int) != (ys.length : Int)) = true := by simp; omega
  have hm' : decide (400 < (xs.length : Int)) = false := by simp; omega
  have hn' : decide (400 < (ys.length : Int)) = false := by simp; omega
  have hh := Lib.hid (halves_any w)
  clear he h1 h2 hx hy hne
  obtain ⟨m, hm⟩ : ∃ m, xs.length = m := ⟨_, rfl⟩
  obtain ⟨n, hn⟩ : ∃ n, ys.length = n := ⟨_, rfl⟩
  rw [hm] at hb hm' HV ⊢
  rw [hn] at hb hn' HU ⊢
  clear hm hn
  go_enter Tryz.func6, Tryz.ntmps6
  go_wp2_with fail
  refine hh.out.mono ?_
  rintro e w1 ⟨rfl, hb1⟩
  go_wp2_with fail
  refine (ints_any _ xs w1 (HV.out.below hb1 (Nat.le_refl _)) (by have := HX.out; omega)).mono ?_
  rintro e w2 ⟨u2, rfl, hu2, hb2⟩
  have hb02 := hb1.trans (hb2.mono hb1.size)
  have HU2 := Lib.hid hu2
  go_wp2_with fail
  refine (ints_any _ ys w2 (HU.out.below hb02 (Nat.le_refl _)) (by have := HY.out; omega)).mono ?_
  rintro e w3 ⟨u3, rfl, hu3, hb3⟩
  have hb03 := hb02.trans (hb3.mono hb02.size)
  have HD := Lib.hid (rdot_shape u2 u3 xs ys a w3 (HE.out.below hb03 (Nat.le_refl _)) (HU2.out.below hb3 (Nat.le_refl _)) hu3 HNE.out)
  have HB3 := Lib.hid hb03
  clear hu3 hu2 hb3 hb2 hb1 hb02 hb03
  go_wp2_with fail
  refine HD.out.mono ?_
  rintro e w4 ⟨rfl, q, rfl⟩
  have HC := Lib.hid (coded_err 2 (by decide) a 3 (w3.drewN q) ((HE.out.below HB3.out (Nat.le_refl _)).drewN q))
  unfold sentV at HC ⊢
  go_wp2_with fail
  refine HC.out.mono ?_
  rintro e w5 ⟨rfl, hb5⟩
  go_wp2_with fail
  go_ret
  exact ⟨rfl, (below_drewN' HB3.out q).trans (hb5.mono HB3.out.size)⟩

set_option maxRecDepth 100000 in
set_option maxHeartbeats 1000000 in
theorem lawDot_large (v u : Value) (xs ys : List Int) (a : Nat → Addr) (w : World) (he : ErrW w a) (hv : SliceI w v xs) (hu : SliceI w u ys) (hx : xs.length ≤ 400) (hlen : xs.length = ys.length) (hlg : (largeB xs || largeB ys) = true) :
    Calls Tryz.prog 6 #[v, u] w fun e w' => e = .returned (.bool true) ∧ Below w.heap.size w w' := by
  have HV := Lib.hid hv
  have HU := Lib.hid hu
  have HE := Lib.hid he
  have HX := Lib.hid hx
  have HLEN := Lib.hid hlen
  have HLG := Lib.hid hlg
  obtain ⟨o, cap, rfl, h1⟩ := hv
  obtain ⟨o', cap', rfl, h2⟩ := hu
  have hm' : decide (400 < (xs.length : Int)) = false := by simp; omega
  have hh := Lib.hid (halves_any w)
  have hlg' : largeB xs = false → Hid (largeB ys = true) := fun h => by
    rw [h] at hlg
    exact hlg
  rw [← hlen] at HU ⊢
  clear he h1 h2 hx hlen hlg
  obtain ⟨m, hm⟩ : ∃ m, xs.length = m := ⟨_, rfl⟩
  rw [hm] at hm' HV HU ⊢
  clear hm
  by_cases hlx : largeB xs = true
  all_goals
    have HLX := Lib.hid hlx
    clear hlx
    go_enter Tryz.func6, Tryz.ntmps6
    go_wp2_with fail
    refine hh.out.mono ?_
    rintro e w1 ⟨rfl, hb1⟩
    go_wp2_with fail
    refine (ints_any _ xs w1 (HV.out.below hb1 (Nat.le_refl _)) (by have := HX.out; omega)).mono ?_
    rintro e w2 ⟨u2, rfl, hu2, hb2⟩
    have hb02 := hb1.trans (hb2.mono hb1.size)
    have HU2 := Lib.hid hu2
    go_wp2_with fail
    refine (ints_any _ ys w2 (HU.out.below hb02 (Nat.le_refl _)) (by have := HX.out; have := HLEN.out; omega)).mono ?_
    rintro e w3 ⟨u3, rfl, hu3, hb3⟩
    have hb03 := hb02.trans (hb3.mono hb02.size)
    have HD := Lib.hid (rdot_large u2 u3 xs ys a w3 (HE.out.below hb03 (Nat.le_refl _)) (HU2.out.below hb3 (Nat.le_refl _)) hu3 HLEN.out (by have := HX.out; omega) HLG.out)
    have HB3 := Lib.hid hb03
    clear hu3 hu2 hb3 hb2 hb1 hb02 hb03
    go_wp2_with fail
    refine HD.out.mono ?_
    rintro e w4 ⟨rfl, q, rfl⟩
    have HB4 := Lib.hid (below_drewN' HB3.out q)
    have HLA := Lib.hid (rlarge_any _ xs (w3.drewN q) (HV.out.below HB4.out (Nat.le_refl _)) (by have := HX.out; omega))
    have HLB := Lib.hid (rlarge_any _ ys (w3.drewN q) (HU.out.below HB4.out (Nat.le_refl _)) (by have := HX.out; have := HLEN.out; omega))
    have HC := Lib.hid (coded_err 1 (by decide) a 2 (w3.drewN q) (HE.out.below HB4.out (Nat.le_refl _)))
    unfold sentV at HC ⊢
    obtain ⟨w4, hw4⟩ : ∃ w4, w3.drewN q = w4 := ⟨_, rfl⟩
    rw [hw4] at HB4 HLA HLB HC ⊢
    clear hw4 HD
  · rw [HLX.out] at HLA
    go_wp2_with fail
    refine HLA.out.mono ?_
    rintro e w5 ⟨rfl, rfl⟩
    go_wp2_with fail
    refine HC.out.mono ?_
    rintro e w6 ⟨rfl, hb6⟩
    go_wp2_with fail
    go_ret
    exact ⟨rfl, HB4.out.trans (hb6.mono HB4.out.size)⟩
  · rw [show largeB xs = false by simpa using HLX.out] at HLA
    rw [(hlg' (by simpa using HLX.out)).out] at HLB
    clear hlg'
    go_wp2_with fail
    refine HLA.out.mono ?_
    rintro e w5 ⟨rfl, rfl⟩
    go_wp2_with fail
    refine HLB.out.mono ?_
    rintro e w5 ⟨rfl, rfl⟩
    go_wp2_with fail
    refine HC.out.mono ?_
    rintro e w6 ⟨rfl, hb6⟩
    go_wp2_with fail
    go_ret
    exact ⟨rfl, HB4.out.trans (hb6.mono HB4.out.size)⟩
end Go.Proofs.YtochcofoknfjfaaGreatDoor
