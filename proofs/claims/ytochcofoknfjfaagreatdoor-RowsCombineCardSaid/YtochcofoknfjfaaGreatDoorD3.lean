/- Walk: rows.Dot. -/
import Derived.Test.YtochcofoknfjfaaGreatDoorD1
import Derived.Test.YtochcofoknfjfaaGreatDoorD2
import Derived.Test.YtochcofoknfjfaaGreatDoorE4
namespace Go.Proofs.YtochcofoknfjfaaGreatDoor
open Go Go.RowKit Nt

theorem half_of {zs : List Int} (h : largeB zs = false) : Half zs := fun z hz => by
  unfold largeB at h
  rw [List.any_eq_false] at h
  have := h z hz
  unfold bigB at this
  simp at this
  omega

/-- Pointers of a row, and of a later one: they differ. -/
theorem row_ptr_lt {w : World} {B0 : Nat} {v : Value} {zs : List Int} {ps : List Value} (h : RowP w B0 v zs ps) {i : Nat} (hi : i < zs.length) {p : Value} (hp : ps[i]? = some p) : ∃ b, p = .pointer (some ⟨b, 0, none⟩) ∧ B0 ≤ b ∧ b < w.heap.size := by
  obtain ⟨p', hp', b, S, rfl, hf, hS⟩ := h.ints i hi
  rw [hp] at hp'
  have hm : b ∈ S := by obtain ⟨_, _, _, _, rfl⟩ := hf; simp
  exact ⟨b, Option.some.inj hp', hS b hm, hf.lt b hm⟩

/-- A row of one number. -/
theorem row_one {w0 w3 : World} {bd : Nat} {Sd : List Nat} {d : Int} {x : Value} {t : TypeId} (hd : IntF w3 bd d Sd) (hSd : ∀ k, k ∈ Sd → w0.heap.size ≤ k) (hle : w0.heap.size ≤ w3.heap.size) :
    RowAt ((w3.alloc (.cells #[.pointer (some ⟨bd, 0, none⟩)] 62)).alloc (.cells #[x] t)) w0.heap.size (.slice (some ⟨w3.heap.size, 0, none⟩) 1 1) [d] := by
  refine ⟨[.pointer (some ⟨bd, 0, none⟩)], ⟨rfl, .inr ⟨w3.heap.size, 1, #[.pointer (some ⟨bd, 0, none⟩)], rfl, hle, ?_, by simp, by unfold maxLen; omega, rfl, rfl⟩⟩, fun i hi => ?_⟩
  · exact (Blk.new w3 _ _).alloc _
  · match i, hi with
    | 0, _ => exact ⟨_, rfl, bd, Sd, rfl, hd.to fun k hk => ((Below.heap_alloc (w3.alloc _) _ _ (by have := hd.lt k hk; simp; omega)).trans (Below.heap_alloc w3 _ _ (hd.lt k hk))), hSd⟩

set_option maxRecDepth 100000 in
set_option maxHeartbeats 1000000 in
theorem rdot_shape (v u : Value) (xs ys : List Int) (a : Nat → Addr) (w : World) (he : ErrW w a) (hv : SliceI w v xs) (hu : SliceI w u ys) (hne : xs.length ≠ ys.length) :
    Calls Tryz.prog 27 #[v, u] w fun e w' => e = .returned (.tuple #[.int .i64 0, sentV a 2]) ∧ ∃ q, w' = w.drewN q := by
  obtain ⟨o, cap, rfl, hcv⟩ := hv
  obtain ⟨o', cap', rfl, hcu⟩ := hu
  clear hcv hcu
  have hb : ((xs.length : Int) != (ys.length : Int)) = true := by simp; omega
  have hg : w.cell? ⟨0, 0, none⟩ = some (.iface 315 (.pointer (some (a 2)))) := he.var 2 (by decide)
  clear he hne
  generalize xs.length = m at *
  generalize ys.length = n at *
  go_enter Tryz.func27, Tryz.ntmps27
  go_wp2_with fail
  go_quiet (fail)
  go_wp2_with fail
  go_ret2
  exact ⟨rfl, _, rfl⟩

set_option maxRecDepth 100000 in
set_option maxHeartbeats 1000000 in
theorem rdot_large (v u : Value) (xs ys : List Int) (a : Nat → Addr) (w : World) (he : ErrW w a) (hv : SliceI w v xs) (hu : SliceI w u ys) (hlen : xs.length = ys.length) (hl : xs.length ≤ 1000000) (hlg : (largeB xs || largeB ys) = true) :
    Calls Tryz.prog 27 #[v, u] w fun e w' => e = .returned (.tuple #[.int .i64 0, sentV a 1]) ∧ ∃ q, w' = w.drewN q := by
  have HX := Lib.hid (large_any v xs w hv hl)
  have HY := Lib.hid (large_any u ys w hu (by omega))
  obtain ⟨o, cap, rfl, hcv⟩ := hv
  obtain ⟨o', cap', rfl, hcu⟩ := hu
  clear hcv hcu
  have hg : w.cell? ⟨1, 0, none⟩ = some (.iface 315 (.pointer (some (a 1)))) := he.var 1 (by decide)
  rw [← hlen] at HY ⊢
  clear he hlen
  generalize xs.length = m at *
  by_cases hx : largeB xs = true
  · rw [hx] at HX
    clear hlg hx HY
    go_enter Tryz.func27, Tryz.ntmps27
    go_wp2_with fail
    refine HX.out.mono ?_
    rintro e w1 ⟨rfl, rfl⟩
    go_wp2_with fail
    go_quiet (fail)
    go_wp2_with fail
    go_ret2
    exact ⟨rfl, _, rfl⟩
  · have hx' : largeB xs = false := by simpa using hx
    have hy : largeB ys = true := by simpa [hx'] using hlg
    rw [hx'] at HX
    rw [hy] at HY
    clear hlg hx hx' hy
    go_enter Tryz.func27, Tryz.ntmps27
    go_wp2_with fail
    refine HX.out.mono ?_
    rintro e w1 ⟨rfl, rfl⟩
    go_wp2_with fail
    refine HY.out.mono ?_
    rintro e w1 ⟨rfl, rfl⟩
    go_wp2_with fail
    go_quiet (fail)
    go_wp2_with fail
    go_ret2
    exact ⟨rfl, _, rfl⟩

/-- What rows.Dot gives of two rows of one length, no number of which is large. -/
def dotErr (a : Nat → Addr) (d : Int) : Value := if d.natAbs ≤ 4611686018427387904 then .nilIface else sentV a 1
def dotNum (d : Int) : Int := if d.natAbs ≤ 4611686018427387904 then d else 0

set_option maxRecDepth 100000 in
set_option maxHeartbeats 2000000 in
theorem rdot_any (v u : Value) (xs ys : List Int) (a : Nat → Addr) (w : World) (he : ErrW w a) (hv : SliceI w v xs) (hu : SliceI w u ys) (hlen : xs.length = ys.length) (hl : xs.length ≤ 1000000) (hx : largeB xs = false) (hy : largeB ys = false) :
    Calls Tryz.prog 27 #[v, u] w fun e w' => e = .returned (.tuple #[.int .i64 (dotNum (dotZ xs ys)), dotErr a (dotZ xs ys)]) ∧ Below w.heap.size w w' := by
  have HX := Lib.hid (large_any v xs w hv hl)
  have HY := Lib.hid (large_any u ys w hu (by omega))
  rw [hx] at HX
  rw [hy] at HY
  have hfx := half_of hx
  have hfy := half_of hy
  have HO1 := Lib.hid (of_any v xs w hv (fun z hz => by have := hfx z hz; omega) hl)
  have HU := Lib.hid hu
  have HE := Lib.hid he
  have HFX := Lib.hid hfx
  have HFY := Lib.hid hfy
  obtain ⟨o, cap, rfl, hcv⟩ := hv
  obtain ⟨o', cap', rfl, hcu⟩ := hu
  clear hcv hcu
  have hl' : ys.length ≤ 1000000 := by omega
  obtain ⟨n, hn⟩ : ∃ n, xs.length = n := ⟨_, rfl⟩
  have HN := Lib.hid hn
  have HNY := Lib.hid (hlen.symm.trans hn)
  have HLEN := Lib.hid hlen
  obtain ⟨d, hdd⟩ : ∃ d, dotZ xs ys = d := ⟨_, rfl⟩
  have HDZ := Lib.hid hdd
  rw [hdd]
  clear hdd
  rw [show ys.length = n from hlen.symm.trans hn] at HY HU ⊢
  rw [hn] at HX HO1 hl ⊢
  clear he hlen hx hy hfx hfy hn hl'
  go_enter Tryz.func27, Tryz.ntmps27
  go_wp2_with fail
  refine HX.out.mono ?_
  rintro e w1 ⟨rfl, rfl⟩
  go_wp2_with fail
  refine HY.out.mono ?_
  rintro e w1 ⟨rfl, rfl⟩
  go_wp2_with fail
  refine HO1.out.mono ?_
  rintro e w1 ⟨va, rfl, ⟨ps, ha⟩, hb1⟩
  have HO2 := Lib.hid (of_any _ ys w1 (HU.out.below hb1 (Nat.le_refl _)) (fun z hz => by have := HFY.out z hz; omega) (by have := HNY.out; omega))
  go_wp2_with fail
  refine HO2.out.mono ?_
  rintro e w2 ⟨vb, rfl, ⟨qs, hb⟩, hb2⟩
  have ha2 := ha.below hb2 (Nat.le_refl _)
  have HD := Lib.hid (edot_any va vb xs ys ps qs _ _ w2 ha2 hb HLEN.out (fun i p hi h1 h2 => by
    obtain ⟨b, rfl, _, h3⟩ := row_ptr_lt ha hi h1
    obtain ⟨b', e, h4, _⟩ := row_ptr_lt hb (by have := HLEN.out; omega) h2
    simp only [Value.pointer.injEq, Option.some.injEq, Addr.mk.injEq, and_true] at e
    omega) HFX.out HFY.out (by have := HN.out; omega))
  have HB2 := Lib.hid (hb1.trans (hb2.mono hb1.size))
  clear ha ha2 hb hb1 hb2 HO1 HO2 HX HY HU
  go_wp2_with fail
  refine HD.out.mono ?_
  rintro e w3 ⟨bd, Sd, rfl, hd, hSd, hb3⟩
  have HB3 := Lib.hid (HB2.out.trans (hb3.mono HB2.out.size))
  have HROW : Hid (RowAt ((w3.alloc (.cells #[.pointer (some ⟨bd, 0, none⟩)] 62)).alloc (.cells #[.slice (some ⟨w3.heap.size, 0, none⟩) 1 1] 58)) w2.heap.size (.slice (some ⟨w3.heap.size, 0, none⟩) 1 1) [dotZ xs ys]) := row_one hd hSd hb3.size
  have HCELL : Hid (((w3.alloc (.cells #[.pointer (some ⟨bd, 0, none⟩)] 62)).alloc (.cells #[.slice (some ⟨w3.heap.size, 0, none⟩) 1 1] 58)).cell? ⟨w3.heap.size + 1, 0, none⟩ = some (.slice (some ⟨w3.heap.size, 0, none⟩) 1 1)) := World.cell?_alloc_at _ _ _ _ (by simp)
  have HB4 : Hid (Below w.heap.size w ((w3.alloc (.cells #[.pointer (some ⟨bd, 0, none⟩)] 62)).alloc (.cells #[.slice (some ⟨w3.heap.size, 0, none⟩) 1 1] 58))) := (HB3.out.alloc HB3.out.size _).alloc (by have := HB3.out.size; simp; omega) _
  rw [HDZ.out] at HROW
  clear hd hSd hb3 HD
  by_cases hfit : d.natAbs ≤ 4611686018427387904
  · have HT := Lib.hid (told_one (w3.heap.size + 1) 1 _ [d] _ _ HCELL.out (by simp) HROW.out (by intro z hz; simp at hz; subst hz; exact hfit) (by simp))
    have HR := Lib.hid (show dotNum d = d ∧ dotErr a d = .nilIface from ⟨if_pos hfit, if_pos hfit⟩)
    clear hfit
    go_wp2_with fail
    refine HT.out.mono ?_
    rintro e w5 ⟨ot, ct, bl, cl, csl, rfl, hcell, hblk, hsz, hcs, _, _, _, hb5⟩
    have hcd := (hblk.cell 0).trans (hcs 0 (by simp))
    have HB5 := Lib.hid (HB4.out.trans (hb5.mono HB4.out.size))
    simp only [List.length_cons, List.length_nil, List.getElem_cons_zero, Nat.zero_add] at hcell hcd
    clear hblk hsz hcs hb5 HT
    go_wp2_with fail
    go_ret2
    exact ⟨by rw [HR.out.1, HR.out.2]; rfl, HB5.out⟩
  · have HT := Lib.hid (told_no (w3.heap.size + 1) 1 _ [d] _ _ HCELL.out (by simp) HROW.out ⟨0, by simp, by simp; omega⟩ (by simp))
    have HR := Lib.hid (show dotNum d = 0 ∧ dotErr a d = sentV a 1 from ⟨if_neg hfit, if_neg hfit⟩)
    clear hfit
    go_wp2_with fail
    refine HT.out.mono ?_
    rintro e w5 ⟨rfl, hb5⟩
    have hb05 := HB4.out.trans (hb5.mono HB4.out.size)
    have hg : w5.cell? ⟨1, 0, none⟩ = some (.iface 315 (.pointer (some (a 1)))) := (HE.out.below hb05 (Nat.le_refl _)).var 1 (by decide)
    have HB5 := Lib.hid hb05
    clear hb5 hb05 HT
    go_wp2_with fail
    go_quiet (fail)
    go_wp2_with fail
    go_ret2
    exact ⟨by rw [HR.out.1, HR.out.2]; rfl, below_drewN' HB5.out _⟩
end Go.Proofs.YtochcofoknfjfaaGreatDoor
