/- Walk: corner, given what exact.Cone makes of the unit rows. Walk: cone.Generate of the unit rows, given what exact.Cone makes of them. Walk: corner, given what exact.Cone makes of the unit rows. -/
import Derived.Test.YtggoncneinlpgaaGreatDoorJD
import Derived.Test.YtggoncneinlpgaaGreatDoorH5
import Derived.Test.YtggoncneinlpgaaGreatDoorH67
namespace Go.Proofs.YtggoncneinlpgaaGreatDoor
open Go Go.RowKit Nt

def unitM : List (List Int) := [[1, 0], [0, 1]]
def raysM : List (List Int) := [[0, 1], [1, 0]]
/-- What exact.Cone makes of the unit rows. -/
def ConeUnit : Prop := ∀ (w : World) (B : Nat) (r : Value) (xs : List Value), B ≤ w.heap.size → OwnR w B r unitM xs →
  Calls Tryz.prog 37 #[.int .i64 2, r, .slice none 0 0] w fun e w' => ∃ rv B', e = .returned (.tuple #[rv, .slice none 0 0]) ∧ RowsR w' B' rv raysM ∧ Below w.heap.size w w'

theorem all_nil (w : World) : Calls Tryz.prog 38 #[.slice none 0 0] w fun e w' => e = .returned (.slice none 0 0) ∧ w = w' := by
  go_enter Tryz.func38, Tryz.ntmps38
  go_wp2_with fail
  refine wp_loop_rounds 1 ?_
  rw [rounds_succ]
  go_wp2_with fail
  go_ret
  exact ⟨rfl, rfl⟩

set_option maxRecDepth 100000 in
set_option maxHeartbeats 1000000 in
theorem turned_unit (hcu : ConeUnit) (vu : Value) (w : World) (hu : MatAt w vu unitM) :
    Calls Tryz.prog 23 #[.int .i64 2, vu, .slice none 0 0] w fun e w' => ∃ u v, e = .returned (.tuple #[u, v, .nilIface]) ∧ MatAt w' u raysM ∧ MatAt w' v [] ∧ Below w.heap.size w w' := by
  have HA := Lib.hid (all_any vu unitM w hu (by decide) (by decide) (by unfold I64 unitM; decide))
  have HCU := Lib.hid hcu
  clear hu hcu
  go_enter Tryz.func23, Tryz.ntmps23
  go_wp2_with fail
  refine HA.out.mono ?_
  rintro e w1 ⟨u, xs, rfl, ho, hb1⟩
  have HB1 := Lib.hid hb1
  have HC := Lib.hid (HCU.out w1 _ u xs hb1.size ho)
  clear ho hb1 HA HCU
  go_wp2_with fail
  refine (all_nil w1).mono ?_
  rintro e w2 ⟨rfl, rfl⟩
  go_wp2_with fail
  refine HC.out.mono ?_
  rintro e w3 ⟨rv, B', rfl, hr, hb3⟩
  have HB3 := Lib.hid (HB1.out.trans (hb3.mono HB1.out.size))
  have HT := Lib.hid (told_many rv raysM B' w3 hr (by unfold Fit raysM; decide) (by decide) (by decide))
  clear hr hb3 HC
  go_wp2_with fail
  refine HT.out.mono ?_
  rintro e w4 ⟨u1, rfl, hm1, hb4⟩
  have HB4 := Lib.hid (HB3.out.trans (hb4.mono HB3.out.size))
  have HT2 := Lib.hid (told_many (.slice none 0 0) [] 0 w4 ⟨none, 0, rfl, fun h => absurd rfl h⟩ (by simp) (by simp) (by simp))
  have HM1 := Lib.hid hm1
  clear hb4 HT hm1
  go_wp2_with fail
  refine HT2.out.mono ?_
  rintro e w5 ⟨u2, rfl, hm2, hb5⟩
  have HB5 := Lib.hid (HB4.out.trans (hb5.mono HB4.out.size))
  have HM2 := Lib.hid hm2
  have HM1' := Lib.hid (HM1.out.below hb5 (Nat.le_refl _))
  obtain ⟨o1, c1, e1, q1⟩ := HM1.out
  obtain rfl : u1 = .slice o1 2 c1 := e1
  obtain ⟨o2, c2, e2, q2⟩ := hm2
  obtain rfl : u2 = .slice o2 0 c2 := e2
  clear q1 q2 hb5
  go_wp2_with fail
  go_ret3
  exact ⟨_, _, rfl, HM1'.out, HM2.out, HB5.out⟩

set_option maxRecDepth 100000 in
set_option maxHeartbeats 1000000 in
/-- SameLists of two lists that are the same. -/
theorem sameLists_eq (va vb : Value) (m : List (List Int)) (w : World) (ha : MatAt w va m) (hb : MatAt w vb m) (hl : m.length ≤ 1000) (hM : ∀ r ∈ m, r.length ≤ 1000000) :
    Calls Tryz.prog 15 #[va, vb] w fun e w' => e = .returned (.bool true) ∧ ∃ q, w' = w.drewN q := by
  have HA := Lib.hid ha
  have HB := Lib.hid hb
  have HM := Lib.hid hM
  obtain ⟨o, cap, rfl, qa⟩ := ha
  obtain ⟨o', cap', rfl, qb⟩ := hb
  obtain ⟨n, hn⟩ : ∃ n, m.length = n := ⟨_, rfl⟩
  have HN := Lib.hid hn
  rw [hn] at HA HB hl ⊢
  clear qa qb hn hM
  go_enter Tryz.func15, Tryz.ntmps15
  go_wp2_with fail
  go_loopw [5] (fun i wr => ∃ k q : Nat, k ≤ n ∧ i = .int .i64 k ∧ wr = w.drewN q) (fun i _ => n - (intOf i).toNat)
  case atStart => exact ⟨0, 0, Nat.zero_le _, rfl, rfl⟩
  case round =>
    obtain ⟨k, q, hk, rfl, rfl⟩ := hrel
    by_cases hlt : k < n
    · have hk' : k < m.length := by have := HN.out; omega
      obtain ⟨b, off, cp, oa, ca, e1, hbl, h2, h3⟩ := HA.out.get hk'
      simp only [Value.slice.injEq] at e1
      obtain ⟨rfl, hnn, rfl⟩ := e1
      obtain ⟨b', off', cp', oa', ca', e1', hbl', h2', h3'⟩ := HB.out.get hk'
      simp only [Value.slice.injEq] at e1'
      obtain ⟨rfl, hnn', rfl⟩ := e1'
      have HS := Lib.hid (fun j => rsame_any _ _ m[k] m[k] (w.drewN j) (h3.below (below_drewN' (Below.refl _ _) j) (Nat.le_refl _)) (h3'.below (below_drewN' (Below.refl _ _) j) (Nat.le_refl _)) (HM.out _ (List.getElem_mem hk')))
      simp only [decide_true] at HS
      obtain ⟨la, hla⟩ : ∃ l, m[k].length = l := ⟨_, rfl⟩
      rw [hla] at h2 h2' HS
      clear h3 h3' hnn hnn' hla
      go_wp2_with fail
      go_quiet ((go_at_call 24; refine (HS.out _).mono ?_; rintro e w' ⟨rfl, mq, rfl⟩; exact ⟨rfl, _, by rw [World.drewN_drewN, Nat.add_assoc]⟩))
      go_wp2_with fail
      go_roundw
      case rel => exact ⟨k + 1, _, by omega, by go_num, rfl⟩
      case measure => simp [intOf]; omega
    · obtain rfl : k = n := by omega
      go_wp2_with fail
      go_ret
      exact ⟨rfl, _, rfl⟩
end Go.Proofs.YtggoncneinlpgaaGreatDoor
namespace Go.Proofs.YtggoncneinlpgaaGreatDoor
open Go Go.RowKit Nt

theorem box_cell (w : World) (o o2 : Obj) (p : Addr) (hp : p.block = w.heap.size) : ((w.alloc o).alloc o2).cell? p = (w.alloc o).cell? p :=
  ((Below.refl (w.heap.size + 1) (w.alloc o)).alloc (by simp) o2).cell (by omega)

theorem othC {w : World} {p q : Addr} {u : Value} (h : q ≠ p) : (w.setCell p u).cell? q = w.cell? q := by
  apply World.cell?_setCell_other
  exact h.symm
theorem samC {w : World} {p : Addr} {x u : Value} (h : w.cell? p = some x) : (w.setCell p u).cell? p = some u := by
  apply World.cell?_setCell_same
  exact h
/-- A row of two numbers or more, where a block that holds nil slices has turned. -/
theorem sliceI_set3 {w W : World} {v : Value} {zs : List Int} {k : Nat} (h : SliceI w v zs) (hl : 2 ≤ zs.length) (h1 : w.cell? ⟨k, 1, none⟩ = some (.slice none 0 0)) (h2 : w.cell? ⟨k, 2, none⟩ = some (.slice none 0 0))
    (hs : w.heap.size ≤ W.heap.size) (hW : ∀ q : Addr, q ≠ ⟨k, 0, none⟩ → q ≠ ⟨k, 1, none⟩ → q ≠ ⟨k, 2, none⟩ → W.cell? q = w.cell? q) : SliceI W v zs := by
  obtain ⟨o, cap, rfl, h⟩ := h
  refine ⟨o, cap, rfl, fun hne => ?_⟩
  obtain ⟨b, off, rfl, hlt, hc⟩ := h hne
  refine ⟨b, off, rfl, Nat.lt_of_lt_of_le hlt hs, fun i hi => ?_⟩
  rw [hW _ (fun e => ?_) (fun e => ?_) (fun e => ?_)]
  · exact hc i hi
  · simp only [Addr.mk.injEq, and_true] at e
    obtain ⟨rfl, e⟩ := e
    have := hc 1 (by omega)
    rw [show off + 1 = 1 by omega, h1] at this
    simp at this
  · have := hc i hi
    rw [e, h1] at this
    simp at this
  · have := hc i hi
    rw [e, h2] at this
    simp at this
theorem matAt_set3 {w W : World} {v : Value} {m : List (List Int)} {k : Nat} (h : MatAt w v m) (hl : ∀ r ∈ m, 2 ≤ r.length) (h0 : w.cell? ⟨k, 0, none⟩ = some (.int .i64 0)) (h1 : w.cell? ⟨k, 1, none⟩ = some (.slice none 0 0)) (h2 : w.cell? ⟨k, 2, none⟩ = some (.slice none 0 0))
    (hs : w.heap.size ≤ W.heap.size) (hW : ∀ q : Addr, q ≠ ⟨k, 0, none⟩ → q ≠ ⟨k, 1, none⟩ → q ≠ ⟨k, 2, none⟩ → W.cell? q = w.cell? q) : MatAt W v m := by
  obtain ⟨o, cap, rfl, h, hn⟩ := h
  refine ⟨o, cap, rfl, fun hne => ?_, hn⟩
  obtain ⟨b, off, rfl, hlt, hc⟩ := h hne
  refine ⟨b, off, rfl, Nat.lt_of_lt_of_le hlt hs, fun i hi => ?_⟩
  obtain ⟨av, e1, e2⟩ := hc i hi
  have hav : ∃ q n c, av = .slice (some q) n c := by
    obtain ⟨o', c', rfl, hh⟩ := e2
    obtain ⟨b', off', rfl, _⟩ := hh (by intro e; have := hl _ (List.getElem_mem hi); rw [e] at this; simp at this)
    exact ⟨_, _, _, rfl⟩
  refine ⟨av, ?_, sliceI_set3 e2 (hl _ (List.getElem_mem hi)) h1 h2 hs hW⟩
  obtain ⟨q, n, c, rfl⟩ := hav
  rw [hW _ (fun e => ?_) (fun e => ?_) (fun e => ?_)]
  · exact e1
  · rw [e, h0] at e1
    simp at e1
  · rw [e, h1] at e1
    simp at e1
  · rw [e, h2] at e1
    simp at e1

set_option maxRecDepth 100000 in
set_option maxHeartbeats 2000000 in
theorem generate_unit (hcu : ConeUnit) (vu : Value) (a : Nat → Addr) (w : World) (he : ErrW w a) (hu : MatAt w vu unitM) :
    Calls Tryz.prog 14 #[.agg #[.int .i64 2, vu, .slice none 0 0]] w fun e w' => ∃ u v, e = .returned (.tuple #[.agg #[.int .i64 2, u, v], .nilIface]) ∧ MatAt w' u raysM ∧ MatAt w' v [] ∧ Below w.heap.size w w' := by
  have hb2 : ∀ o o2, Below w.heap.size w ((w.alloc o).alloc o2) := fun o o2 => ((Below.refl _ _).alloc (Nat.le_refl _) o).alloc (by simp) o2
  have HB := Lib.hid hb2
  have hnil : ∀ w1, MatAt w1 (.slice none 0 0) [] := fun w1 => ⟨none, 0, rfl, fun h => absurd rfl h, fun _ => rfl⟩
  have HA := Lib.hid (fun o o2 => validCone_any vu (.slice none 0 0) 2 unitM [] a ((w.alloc o).alloc o2) (he.below (hb2 o o2) (Nat.le_refl _)) (hu.below (hb2 o o2) (Nat.le_refl _)) (hnil _) (by decide) (by decide) (by decide))
  rw [show errJ a (coneErr 2 (unitM ++ [])) = .nilIface from rfl] at HA
  have HT := Lib.hid (fun w1 (hb : Below w.heap.size w w1) => turned_unit hcu vu w1 (hu.below hb (Nat.le_refl _)))
  obtain ⟨o, c, e1, q1⟩ := hu
  obtain rfl : vu = .slice o 2 c := e1
  clear q1 he hb2 hnil hcu
  go_enter Tryz.func14, Tryz.ntmps14
  go_wp2_with fail
  refine (HA.out _ _).mono ?_
  rintro e w1 ⟨rfl, hb1⟩
  have hb01 := (HB.out _ _).trans (hb1.mono (HB.out _ _).size)
  have hc0 : w1.cell? ⟨w.heap.size, 0, none⟩ = some (.int .i64 2) := (hb1.cell (p := ⟨w.heap.size, 0, none⟩) (by simp; omega)).trans ((box_cell w _ _ _ rfl).trans (by simp))
  have hc1 : w1.cell? ⟨w.heap.size, 1, none⟩ = some (.slice o 2 c) := (hb1.cell (p := ⟨w.heap.size, 1, none⟩) (by simp; omega)).trans ((box_cell w _ _ _ rfl).trans (by simp))
  have hc2 : w1.cell? ⟨w.heap.size, 2, none⟩ = some (.slice none 0 0) := (hb1.cell (p := ⟨w.heap.size, 2, none⟩) (by simp; omega)).trans ((box_cell w _ _ _ rfl).trans (by simp))
  have HB1 := Lib.hid hb01
  have HT1 := Lib.hid (HT.out w1 hb01)
  have hz1 : w.heap.size + 1 < w1.heap.size := by have := hb1.size; simp at this; omega
  have hr0 : w1.cell? ⟨w.heap.size + 1, 0, none⟩ = some _ := (hb1.cell (p := ⟨w.heap.size + 1, 0, none⟩) (by simp)).trans (World.cell?_alloc_at _ _ _ _ (by simp))
  have hr1 : w1.cell? ⟨w.heap.size + 1, 1, none⟩ = some _ := (hb1.cell (p := ⟨w.heap.size + 1, 1, none⟩) (by simp)).trans (World.cell?_alloc_at _ _ _ _ (by simp))
  have hr2 : w1.cell? ⟨w.heap.size + 1, 2, none⟩ = some _ := (hb1.cell (p := ⟨w.heap.size + 1, 2, none⟩) (by simp)).trans (World.cell?_alloc_at _ _ _ _ (by simp))
  have hf : ∀ i, w1.frozen? ⟨w.heap.size + 1, i, none⟩ = false := fun i => (hb1.frozen (p := ⟨w.heap.size + 1, i, none⟩) (by simp)).trans (by simp)
  clear hb01 hb1 HT HA
  go_wp2_with fail
  refine HT1.out.mono ?_
  rintro e w2 ⟨u, v, rfl, hm1, hm2, hb2⟩
  have hb02 := HB1.out.trans (hb2.mono HB1.out.size)
  have HB2 := Lib.hid hb02
  have HM1 := Lib.hid hm1
  have HM2 := Lib.hid hm2
  obtain ⟨o1, c1, e1, q1⟩ := hm1
  obtain rfl : u = .slice o1 2 c1 := e1
  obtain ⟨o2, c2, e2, q2⟩ := hm2
  obtain rfl : v = .slice o2 0 c2 := e2
  have hd0 : w2.cell? ⟨w.heap.size, 0, none⟩ = some (.int .i64 2) := (hb2.cell (p := ⟨w.heap.size, 0, none⟩) (by simp; omega)).trans hc0
  have hz2 : w.heap.size + 1 < w2.heap.size := Nat.lt_of_lt_of_le hz1 hb2.size
  have hs0 : w2.cell? ⟨w.heap.size + 1, 0, none⟩ = some _ := (hb2.cell (p := ⟨w.heap.size + 1, 0, none⟩) hz1).trans hr0
  have hs1 : w2.cell? ⟨w.heap.size + 1, 1, none⟩ = some _ := (hb2.cell (p := ⟨w.heap.size + 1, 1, none⟩) hz1).trans hr1
  have hs2 : w2.cell? ⟨w.heap.size + 1, 2, none⟩ = some _ := (hb2.cell (p := ⟨w.heap.size + 1, 2, none⟩) hz1).trans hr2
  have hf0 : w2.frozen? ⟨w.heap.size + 1, 0, none⟩ = false := (hb2.frozen (p := ⟨w.heap.size + 1, 0, none⟩) hz1).trans (hf 0)
  have hf1 : w2.frozen? ⟨w.heap.size + 1, 1, none⟩ = false := (hb2.frozen (p := ⟨w.heap.size + 1, 1, none⟩) hz1).trans (hf 1)
  have hf2 : w2.frozen? ⟨w.heap.size + 1, 2, none⟩ = false := (hb2.frozen (p := ⟨w.heap.size + 1, 2, none⟩) hz1).trans (hf 2)
  have hbw := ((hb02.setCell (p := ⟨w.heap.size + 1, 0, none⟩) (by simp) (.int .i64 2)).setCell (p := ⟨w.heap.size + 1, 1, none⟩) (by simp) (.slice o1 2 c1)).setCell (p := ⟨w.heap.size + 1, 2, none⟩) (by simp) (.slice o2 0 c2)
  have HBW := Lib.hid hbw
  have HM1' := Lib.hid (matAt_set3 HM1.out (k := w.heap.size + 1) (by decide) hs0 hs1 hs2 (W := ((w2.setCell ⟨w.heap.size + 1, 0, none⟩ (.int .i64 2)).setCell ⟨w.heap.size + 1, 1, none⟩ (.slice o1 2 c1)).setCell ⟨w.heap.size + 1, 2, none⟩ (.slice o2 0 c2)) (by simp) (fun q n0 n1 n2 => by rw [othC n2, othC n1, othC n0]))
  have HM2' := Lib.hid (matAt_set3 HM2.out (k := w.heap.size + 1) (by simp) hs0 hs1 hs2 (W := ((w2.setCell ⟨w.heap.size + 1, 0, none⟩ (.int .i64 2)).setCell ⟨w.heap.size + 1, 1, none⟩ (.slice o1 2 c1)).setCell ⟨w.heap.size + 1, 2, none⟩ (.slice o2 0 c2)) (by simp) (fun q n0 n1 n2 => by rw [othC n2, othC n1, othC n0]))
  clear q1 q2 hc0 hc1 hc2 HT1 hf hr0 hr1 hr2 hb2 hb02 hbw
  have hk0 : (((w2.setCell ⟨w.heap.size + 1, 0, none⟩ (.int .i64 2)).setCell ⟨w.heap.size + 1, 1, none⟩ (.slice o1 2 c1)).setCell ⟨w.heap.size + 1, 2, none⟩ (.slice o2 0 c2)).cell? ⟨w.heap.size + 1, 0, none⟩ = some (.int .i64 2) := by
    rw [othC (by simp), othC (by simp), samC hs0]
  have hk1 : (((w2.setCell ⟨w.heap.size + 1, 0, none⟩ (.int .i64 2)).setCell ⟨w.heap.size + 1, 1, none⟩ (.slice o1 2 c1)).setCell ⟨w.heap.size + 1, 2, none⟩ (.slice o2 0 c2)).cell? ⟨w.heap.size + 1, 1, none⟩ = some (.slice o1 2 c1) := by
    rw [othC (by simp), samC (x := .slice none 0 0) (by rw [othC (by simp)]; exact hs1)]
  have hk2 : (((w2.setCell ⟨w.heap.size + 1, 0, none⟩ (.int .i64 2)).setCell ⟨w.heap.size + 1, 1, none⟩ (.slice o1 2 c1)).setCell ⟨w.heap.size + 1, 2, none⟩ (.slice o2 0 c2)).cell? ⟨w.heap.size + 1, 2, none⟩ = some (.slice o2 0 c2) := by
    rw [samC (x := .slice none 0 0) (by rw [othC (by simp), othC (by simp)]; exact hs2)]
  go_wp2_with fail
  refine bodyPost_ret (v := .tuple #[.agg #[.int .i64 2, .slice o1 2 c1, .slice o2 0 c2], .nilIface]) (by simp [results, Tryz.results14, go_sem, hk0, hk1, hk2]) rfl ⟨_, _, rfl, HM1'.out, HM2'.out, HBW.out⟩
end Go.Proofs.YtggoncneinlpgaaGreatDoor
namespace Go.Proofs.YtggoncneinlpgaaGreatDoor
open Go Go.RowKit Nt

/-- A literal of two rows of two numbers. -/
theorem litM (w : World) (a b c d : Int) (t1 t2 t3 : TypeId) :
    MatAt (((w.alloc (.cells #[.int .i64 a, .int .i64 b] t1)).alloc (.cells #[.int .i64 c, .int .i64 d] t2)).alloc (.cells #[.slice (some ⟨w.heap.size, 0, none⟩) 2 2, .slice (some ⟨w.heap.size + 1, 0, none⟩) 2 2] t3)) (.slice (some ⟨w.heap.size + 1 + 1, 0, none⟩) 2 2) [[a, b], [c, d]] := by
  refine ⟨_, 2, rfl, fun _ => ⟨w.heap.size + 1 + 1, 0, rfl, by simp, fun i hi => ?_⟩, fun h => by cases h⟩
  rcases (show i = 0 ∨ i = 1 by simp at hi; omega) with rfl | rfl
  · refine ⟨.slice (some ⟨w.heap.size, 0, none⟩) 2 2, (World.cell?_alloc_at _ _ _ _ (by simp)).trans rfl, _, 2, rfl, fun _ => ⟨w.heap.size, 0, rfl, by simp only [World.size_alloc]; omega, fun j hj => ?_⟩⟩
    have e : ∀ o o2, ((((w.alloc (.cells #[.int .i64 a, .int .i64 b] t1)).alloc o).alloc o2).cell? ⟨w.heap.size, 0 + j, none⟩) = (w.alloc (.cells #[.int .i64 a, .int .i64 b] t1)).cell? ⟨w.heap.size, 0 + j, none⟩ := fun o o2 =>
      (((Below.refl (w.heap.size + 1) (w.alloc (.cells #[.int .i64 a, .int .i64 b] t1))).alloc (by simp) o).alloc (by simp) o2).cell (by simp)
    rw [e]
    rcases (show j = 0 ∨ j = 1 by simp at hj; omega) with rfl | rfl <;> simp
  · refine ⟨.slice (some ⟨w.heap.size + 1, 0, none⟩) 2 2, (World.cell?_alloc_at _ _ _ _ (by simp)).trans rfl, _, 2, rfl, fun _ => ⟨w.heap.size + 1, 0, rfl, by simp, fun j hj => ?_⟩⟩
    have e : ∀ w0 : World, w0.heap.size = w.heap.size + 1 → ∀ o2, (((w0.alloc (.cells #[.int .i64 c, .int .i64 d] t2)).alloc o2).cell? ⟨w.heap.size + 1, 0 + j, none⟩) = (w0.alloc (.cells #[.int .i64 c, .int .i64 d] t2)).cell? ⟨w0.heap.size, 0 + j, none⟩ := fun w0 h0 o2 => by
      rw [← h0]
      exact ((Below.refl (w0.heap.size + 1) (w0.alloc (.cells #[.int .i64 c, .int .i64 d] t2))).alloc (by simp) o2).cell (by simp)
    rw [e _ (by simp)]
    rcases (show j = 0 ∨ j = 1 by simp at hj; omega) with rfl | rfl <;> simp

set_option maxRecDepth 100000 in
set_option maxHeartbeats 2000000 in
theorem corner_unit (hcu : ConeUnit) (a : Nat → Addr) (w : World) (he : ErrW w a) : Corner w := by
  show Calls Tryz.prog 4 #[] w fun e w' => e = .returned (.bool true) ∧ Below w.heap.size w w'
  have hb3 : ∀ o o2 o3, Below w.heap.size w (((w.alloc o).alloc o2).alloc o3) := fun o o2 o3 => (((Below.refl _ _).alloc (Nat.le_refl _) o).alloc (by simp) o2).alloc (by simp; omega) o3
  have HB := Lib.hid hb3
  have HG := Lib.hid (fun t1 t2 t3 => generate_unit hcu _ a _ (he.below (hb3 _ _ _) (Nat.le_refl _)) (litM w 1 0 0 1 t1 t2 t3))
  clear hb3 hcu he
  go_enter Tryz.func4, Tryz.ntmps4
  go_wp2_with fail
  refine (HG.out _ _ _).mono ?_
  rintro e w1 ⟨u, v, rfl, hm1, hm2, hb1⟩
  have HB1 := Lib.hid ((HB.out _ _ _).trans (hb1.mono (HB.out _ _ _).size))
  have HM1 := Lib.hid hm1
  obtain ⟨o1, c1, e1, q1⟩ := hm1
  obtain rfl : u = .slice o1 2 c1 := e1
  obtain ⟨o2, c2, e2, q2⟩ := hm2
  obtain rfl : v = .slice o2 0 c2 := e2
  clear q1 q2 hb1 HG
  go_wp2_with fail
  have hbx : ∀ o, Below w1.heap.size w1 (w1.alloc o) := fun o => (Below.refl _ _).alloc (Nat.le_refl _) o
  have hbx4 : ∀ o o2 o3 o4, Below w1.heap.size w1 ((((w1.alloc o).alloc o2).alloc o3).alloc o4) := fun o o2 o3 o4 => (((hbx o).alloc (by simp) o2).alloc (by simp; omega) o3).alloc (by simp; omega) o4
  have hbr : ∀ o o2 o3 o4, Below (w1.heap.size + 1) (w1.alloc o) ((((w1.alloc o).alloc o2).alloc o3).alloc o4) := fun o o2 o3 o4 => (((Below.refl _ _).alloc (by simp) o2).alloc (by simp) o3).alloc (by simp) o4
  have HS := Lib.hid (fun o t1 t2 t3 => sameLists_eq (.slice o1 2 c1) (.slice (some ⟨w1.heap.size + 1 + 1 + 1, 0, none⟩) 2 2) raysM ((((w1.alloc o).alloc (.cells #[.int .i64 0, .int .i64 1] t1)).alloc (.cells #[.int .i64 1, .int .i64 0] t2)).alloc (.cells #[.slice (some ⟨w1.heap.size + 1, 0, none⟩) 2 2, .slice (some ⟨w1.heap.size + 1 + 1, 0, none⟩) 2 2] t3)) (HM1.out.below (hbx4 _ _ _ _) (Nat.le_refl _)) (by
    have h := litM (w1.alloc o) 0 1 1 0 t1 t2 t3
    rw [World.size_alloc] at h
    exact h) (by decide) (by decide))
  refine (HS.out _ _ _ _).mono ?_
  rintro e w2 ⟨rfl, q, rfl⟩
  have HB2 := Lib.hid (below_drewN' (HB1.out.trans ((hbx4 (.cells #[.int .i64 2, .slice o1 2 c1, .slice o2 0 c2] 40) (.cells #[.int .i64 0, .int .i64 1] 3) (.cells #[.int .i64 1, .int .i64 0] 3) (.cells #[.slice (some ⟨w1.heap.size + 1, 0, none⟩) 2 2, .slice (some ⟨w1.heap.size + 1 + 1, 0, none⟩) 2 2] 23)).mono HB1.out.size)) q)
  have hc := ((below_drewN' (hbr (.cells #[.int .i64 2, .slice o1 2 c1, .slice o2 0 c2] 40) (.cells #[.int .i64 0, .int .i64 1] 3) (.cells #[.int .i64 1, .int .i64 0] 3) (.cells #[.slice (some ⟨w1.heap.size + 1, 0, none⟩) 2 2, .slice (some ⟨w1.heap.size + 1 + 1, 0, none⟩) 2 2] 23)) q).cell (p := ⟨w1.heap.size, 2, none⟩) (by simp)).trans (World.cell?_alloc_at _ _ _ 2 rfl)
  clear hbx hbx4 hbr HS
  go_wp2_with fail
  go_ret
  exact ⟨rfl, HB2.out⟩
end Go.Proofs.YtggoncneinlpgaaGreatDoor
