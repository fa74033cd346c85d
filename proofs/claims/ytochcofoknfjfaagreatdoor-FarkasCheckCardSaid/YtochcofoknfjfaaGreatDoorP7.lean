/- Walk: farkas.Check where the rows and the shape are in order. -/
import Derived.Test.YtochcofoknfjfaaGreatDoorFG
import Derived.Test.YtochcofoknfjfaaGreatDoorM3
import Derived.Test.YtochcofoknfjfaaGreatDoorM11
import Derived.Laws.OwnMore
import Derived.Deep.RegionHeld3
import Derived.Deep.AppendLies
namespace Go.Proofs.YtochcofoknfjfaaGreatDoor
open Go Go.RowKit Nt

def okB (den : Int) (ws : List Int) : Bool := toldB den && ws.all toldB
/-- What Check leaves where the rows and the shape are in order. -/
def ChkEnd (a : Nat → Addr) (d : Nat) (rs : List RowZ) (r : RowZ) (ws : List Int) (den : Int) (e : Ending) : Prop :=
  ((bigR r || !okB den ws) = true → e = .returned (.tuple #[.bool false, sentV a 1])) ∧
  ((bigR r || !okB den ws) = false → ∃ g, e = .returned (.tuple #[.bool g, .nilIface]) ∧ (g = true ↔ Holds d rs r ws den))

theorem ChkEnd.err {a : Nat → Addr} {d : Nat} {rs : List RowZ} {r : RowZ} {ws : List Int} {den : Int} (h : (bigR r || !okB den ws) = true) : ChkEnd a d rs r ws den (.returned (.tuple #[.bool false, sentV a 1])) :=
  ⟨fun _ => rfl, fun h' => by rw [h] at h'; cases h'⟩

theorem ChkEnd.ok {a : Nat → Addr} {d : Nat} {rs : List RowZ} {r : RowZ} {ws : List Int} {den : Int} (h : (bigR r || !okB den ws) = false) (g : Bool) (hg : g = true ↔ Holds d rs r ws den) : ChkEnd a d rs r ws den (.returned (.tuple #[.bool g, .nilIface])) :=
  ⟨fun h' => (by rw [h] at h'; cases h'), fun _ => ⟨g, rfl, hg⟩⟩
theorem sign_lt (t : Int) : decide (t.sign < 0) = decide (t < 0) := by
  rcases Int.lt_trichotomy t 0 with h | h | h
  · rw [Int.sign_eq_neg_one_of_neg h]; simp [h]
  · subst h; rfl
  · rw [Int.sign_eq_one_of_pos h]; simp; omega
theorem SliceI.drew' {w : World} {v : Value} {zs : List Int} (h : SliceI w v zs) : SliceI w.drew v zs := h.below (B1 := w.heap.size) (Below.refl _ _).drew (Nat.le_refl _)
theorem vals_len {L : List Num} {zs : List Int} (h : vals L = zs) : L.length = zs.length := by rw [← h]; simp [vals]
theorem far_cell {w6 w7 : World} {o : Obj} {v : Value} {B e n : Nat} {xs : List Value} (hown : (w6.alloc o).ownsRow B e 1 v n xs) (hg : (w6.alloc o).grownBy w7 v.ownBlock) {p : Addr} {u : Value} (hp : p.block < B) (hs : p.block < w6.heap.size) (hc : w6.cell? p = some u) : w7.cell? p = some u :=
  (hg.cell_far p (by rw [World.size_alloc]; omega) (fun e => by have := (hown.lt _ e.symm).1; omega)).trans ((World.cell?_alloc_lt w6 _ p hs).trans hc)
theorem sumK_succ {d j : Nat} {rs : List RowZ} {ws : List Int} (h : j < rs.length) (h' : j < ws.length) : sumK d rs ws (j + 1) = addW (sumK d rs ws j) ws[j] (rowN rs[j]) := by
  rw [sumK, List.getD_eq_getElem?_getD, List.getD_eq_getElem?_getD, List.getElem?_eq_getElem h, List.getElem?_eq_getElem h']
  rfl
theorem toldB_le {z : Int} (h : toldB z = true) : z.natAbs ≤ 4611686018427387904 := by
  simp [toldB] at h
  omega
theorem okB_le {den : Int} {ws : List Int} (h : okB den ws = true) : ∀ t ∈ ws, t.natAbs ≤ 4611686018427387904 := fun t ht => by
  simp only [okB, Bool.and_eq_true, List.all_eq_true] at h
  exact toldB_le (h.2 t ht)
theorem half_row {r : RowZ} (h : bigR r = false) : Half (rowN r) := fun z hz => by
  simp only [bigR, Bool.or_eq_false_iff, largeB, List.any_eq_false] at h
  have hb : ∀ z, ¬ bigB z = true → z.natAbs ≤ 2147483648 := fun z hz => by simp [bigB] at hz; omega
  rcases List.mem_append.1 hz with h' | h'
  · exact hb z (h.1 z h')
  · simp at h'; subst h'; exact hb _ (h.2 _ (by simp))

theorem cmpInt_nonneg {x y : Int} : (0 ≤ cmpInt x y) = (y ≤ x) := by
  unfold cmpInt
  split
  · next h => simp; omega
  · next h =>
    split
    · next h2 => simp; omega
    · next h2 => simp; omega
theorem cmpInt_ne {x y : Int} : (cmpInt x y != 0) = !decide (x = y) := by
  unfold cmpInt
  split
  · next h => simp; omega
  · next h =>
    split
    · next h2 => simp [h2]
    · next h2 => simp [h2]

set_option maxRecDepth 100000 in
set_option maxHeartbeats 4000000 in
theorem check_main (v ra fa : Value) (d : Nat) (den : Int) (rs : List RowZ) (r : RowZ) (ws : List Int) (a : Nat → Addr) (w : World) (he : ErrW w a) (hv : RowsAt w v rs) (hr : SliceI w ra r.a) (hf : SliceI w fa ws)
    (h : rowErr d rs r = 0) (hlw : ws.length = rs.length) (hden : 1 ≤ den) (hden2 : den ≤ 9223372036854775807) (hw64 : I64 ws) :
    Calls Tryz.prog 18 #[.agg #[.int .i64 d, v], .agg #[.bool r.eq, ra, .int .i64 r.b], .agg #[fa, .int .i64 den]] w fun e w' => ChkEnd a d rs r ws den e ∧ Below w.heap.size w w' := by
  obtain ⟨i0, hi, hzz⟩ := Option.map_eq_some_iff.1 infoP
  simp only [Prod.mk.injEq] at hzz
  obtain ⟨hz0, hz1, hz2⟩ := hzz
  have HI := Lib.hid hi
  have HZ0 := Lib.hid hz0
  have HZ1 := Lib.hid hz1
  have HZ2 := Lib.hid hz2
  clear hi hz0 hz1 hz2
  obtain ⟨hp, hre, hla⟩ := rowErr_zero h
  obtain ⟨_, hd5, hn24, hall, hbig⟩ := polyErr_zero hp
  have hM : ∀ r ∈ rs, r.a.length ≤ 1000000 := fun r hr => by have := hall r hr; omega
  have hF := Lib.hid hf
  have HV := Lib.hid hv
  have HR := Lib.hid hr
  have HE := Lib.hid he
  obtain ⟨of, cf, rfl, hfc⟩ := hf
  obtain ⟨oa, ca, e1, hq⟩ := hr
  have hr : SliceI w ra r.a := ⟨oa, ca, e1, hq⟩
  obtain ⟨o, cap, e2, hq2⟩ := hv
  have hv : RowsAt w v rs := ⟨o, cap, e2, hq2⟩
  clear hq hq2 hfc
  subst e1 e2
  have hb3 := chkW_below w d o rs.length cap r.eq oa r.a.length ca r.b of ws.length cf den
  have HC := Lib.hid (fcheck_any _ _ d rs r a _ (he.below hb3 (Nat.le_refl _)) (hv.below hb3 (Nat.le_refl _)) (hr.below hb3 (Nat.le_refl _)) hM)
  rw [h, errV_zero] at HC
  have HLG := Lib.hid (fun w1 (hb : Below w.heap.size w w1) => flarge_any _ r w1 (hr.below hb (Nat.le_refl _)) (by omega : r.a.length ≤ 1000000))
  obtain ⟨n, hn⟩ : ∃ n, rs.length = n := ⟨_, rfl⟩
  have HALL := Lib.hid hall
  have HBIG := Lib.hid hbig
  have hla' : r.a.length = d := by omega
  have HLA := Lib.hid hla'
  have HLW := Lib.hid hlw
  rw [hre, hla'] at HC HLG ⊢
  rw [hlw, hn] at HC ⊢
  have HN := Lib.hid hn
  have HRE := Lib.hid hre
  rw [hla'] at HR
  rw [hn] at HV hn24
  clear hb3 he hv hr hM h hp hall hbig hla hlw hn hre
  have HF : ∀ w1, Below (chkW w d o n cap false oa d ca r.b of n cf den).heap.size (chkW w d o n cap false oa d ca r.b of n cf den) w1 → Hid (Below w.heap.size w w1 ∧ (w1.cell? ⟨w.heap.size, 0, none⟩ = some (.int .i64 d) ∧ w1.cell? ⟨w.heap.size, 1, none⟩ = some (.slice o n cap)) ∧
    (w1.cell? ⟨w.heap.size + 1, 0, none⟩ = some (.bool false) ∧ w1.cell? ⟨w.heap.size + 1, 1, none⟩ = some (.slice oa d ca) ∧ w1.cell? ⟨w.heap.size + 1, 2, none⟩ = some (.int .i64 r.b)) ∧
    (w1.cell? ⟨w.heap.size + 1 + 1, 0, none⟩ = some (.slice of n cf) ∧ w1.cell? ⟨w.heap.size + 1 + 1, 1, none⟩ = some (.int .i64 den)) ∧ w1.cell? ⟨1, 0, none⟩ = some (.iface 320 (.pointer (some (a 1))))) := fun w1 hb => by
    rw [chkW_size] at hb
    obtain ⟨k1, k2, k3, k4⟩ := chkW_cells hb
    exact ⟨k1, k2, k3, k4, (HE.out.below k1 (Nat.le_refl _)).var 1 (by decide)⟩
  have HFF := Lib.hid HF
  clear HF HE
  have d0 : decide (den < 1) = false := by simp; omega
  go_enter Tryz.func18, Tryz.ntmps18
  go_wp2_with fail
  refine HC.out.mono ?_
  rintro e1 w1 ⟨rfl, hb⟩
  obtain ⟨hbw, ⟨p0, p1⟩, ⟨x0, x1, x2⟩, ⟨f0, f1⟩, g1⟩ := (HFF.out w1 hb).out
  have HB1 := Lib.hid hb
  have HBW := Lib.hid hbw
  clear hb hbw HC
  go_wp2_with fail
  refine (ftold_any den w1).mono ?_
  rintro e1 w2 ⟨rfl, rfl⟩
  go_wp2_with fail
  go_loop [9, 46] (fun ok i => ∃ k : Nat, k ≤ n ∧ i = .int .i64 k ∧ ok = .bool (toldB den && (ws.take k).all toldB)) (fun _ i => n - (intOf i).toNat)
  case atStart => exact ⟨0, Nat.zero_le _, rfl, by simp⟩
  case round =>
    obtain ⟨k, hk, rfl, rfl⟩ := hrel
    by_cases hlt : k < n
    · have hk' : k < ws.length := by have := HN.out; have := HLW.out; omega
      have hs1 : SliceI w1 (.slice of n cf) ws := by have := hF.out; rw [HLW.out, HN.out] at this; exact this.below HBW.out (Nat.le_refl _)
      obtain ⟨o', c', e, hc⟩ := hs1
      obtain ⟨b, off, rfl, hbl, hcs⟩ := hc (by intro e; rw [e] at hk'; simp at hk')
      simp only [Value.slice.injEq] at e
      obtain ⟨rfl, he, rfl⟩ := e
      clear he hc
      have hcell : w1.cell? ⟨b, off + k, none⟩ = some (.int .i64 ws[k]) := hcs k hk'
      have HT := Lib.hid (show (toldB den && (ws.take (k + 1)).all toldB) = ((toldB den && (ws.take k).all toldB) && toldB ws[k]) by
        rw [List.take_succ_eq_append_getElem hk', List.all_append]; simp [Bool.and_assoc])
      obtain ⟨z, hz⟩ : ∃ z, ws[k] = z := ⟨_, rfl⟩
      rw [hz] at hcell HT
      obtain ⟨ok, hok⟩ : ∃ ok, (toldB den && (ws.take k).all toldB) = ok := ⟨_, rfl⟩
      rw [hok] at HT ⊢
      clear hz hcs hok
      cases ok
      · go_wp2_with fail
        go_round
        case rel => exact ⟨k + 1, by omega, by go_num, by rw [HT.out]; rfl⟩
        case measure => simp [intOf]; omega
      · go_wp2_with fail
        refine (ftold_any z w1).mono ?_
        rintro e1 w2 ⟨rfl, rfl⟩
        go_wp2_with fail
        go_round
        case rel => exact ⟨k + 1, by omega, by go_num, by rw [HT.out]; rfl⟩
        case measure => simp [intOf]; omega
    · obtain rfl : k = n := by omega
      have HOK := Lib.hid (show (toldB den && (ws.take k).all toldB) = okB den ws by rw [List.take_of_length_le (by have := HN.out; have := HLW.out; omega)]; rfl)
      rw [HOK.out]
      have HL1 := Lib.hid (HLG.out w1 HBW.out)
      obtain ⟨g, hg⟩ : ∃ g, bigR r = g := ⟨_, rfl⟩
      obtain ⟨ok, hok⟩ : ∃ g, okB den ws = g := ⟨_, rfl⟩
      have HG := Lib.hid hg
      have HK := Lib.hid hok
      rw [hg] at HL1
      rw [hok]
      clear hg hok HOK HLG
      have hgE : ∀ w2, Below w1.heap.size w1 w2 → Hid (w2.cell? ⟨1, 0, none⟩ = some (.iface 320 (.pointer (some (a 1))))) := fun w2 hb => ((HFF.out w2 (HB1.out.trans (hb.mono HB1.out.size))).out).2.2.2.2
      have HGE := Lib.hid hgE
      clear hgE
      by_cases hbad : (g || !ok) = true
      · have HEND : Hid (ChkEnd a d rs r ws den (.returned (.tuple #[.bool false, sentV a 1]))) := ChkEnd.err (by rw [HG.out, HK.out]; exact hbad)
        cases g
        · have : ok = false := by simpa using hbad
          subst this
          clear hbad
          go_wp2_with fail
          refine HL1.out.mono ?_
          rintro e1 w2 ⟨rfl, hb2⟩
          have hge := (HGE.out w2 hb2).out
          have HBW2 := Lib.hid (HBW.out.trans (hb2.mono HBW.out.size))
          clear hb2
          go_wp2_with fail
          go_quiet (fail)
          go_wp2_with fail
          go_ret2
          exact ⟨HEND.out, below_drewN' HBW2.out _⟩
        · clear hbad
          go_wp2_with fail
          refine HL1.out.mono ?_
          rintro e1 w2 ⟨rfl, hb2⟩
          have hge := (HGE.out w2 hb2).out
          have HBW2 := Lib.hid (HBW.out.trans (hb2.mono HBW.out.size))
          clear hb2
          go_wp2_with fail
          go_quiet (fail)
          go_wp2_with fail
          go_ret2
          exact ⟨HEND.out, below_drewN' HBW2.out _⟩
      · obtain ⟨rfl, rfl⟩ : g = false ∧ ok = true := by cases g <;> cases ok <;> simp at hbad <;> trivial
        clear hbad
        go_wp2_with fail
        refine HL1.out.mono ?_
        rintro e1 w2 ⟨rfl, hb2⟩
        obtain ⟨hbw, ⟨p0, p1⟩, ⟨x0, x1, x2⟩, ⟨f0, f1⟩, _⟩ := (HFF.out w2 (HB1.out.trans (hb2.mono HB1.out.size))).out
        have HBW2 := Lib.hid hbw
        have HB2 := Lib.hid (HB1.out.trans (hb2.mono HB1.out.size))
        clear hb2 hbw HB1 HL1 HGE
        clear p0 p1 x0 x1 x2 f0 f1 g1
        obtain ⟨hbw, ⟨p0, p1⟩, ⟨x0, x1, x2⟩, ⟨f0, f1⟩, _⟩ := (HFF.out w2 HB2.out).out
        have hmk : ∀ w, (Instr.makeSlice 22 (.int .i64 ((d : Int) + 1)) (.int .i64 ((d : Int) + 1))).run Tryz.prog w = .ok (.slice (some ⟨w.heap.size, 0, none⟩) (d + 1) (d + 1)) (w.alloc (.cells (madeCells #[.int .i64 0] (d + 1)) 3)) := fun w => run_make_row' (P := Tryz.prog) 22 3 (.int .i64 0) 8 Tryz.underlying22 info3 rfl .i64 .i64 (d + 1) (by omega) (by omega) w
        have hsz : SliceI (w2.alloc (.cells (madeCells #[.int .i64 0] (d + 1)) 3)) (.slice (some ⟨w2.heap.size, 0, none⟩) (d + 1) (d + 1)) (List.replicate (d + 1) 0) := by
          have := sliceI_lit (cap := d + 1) (zs := List.replicate (d + 1) 0) (heap_new w2 (.cells (madeCells #[.int .i64 0] (d + 1)) 3)) (by rw [toList_madeCells_one]; simp)
          simpa using this
        have HOF := Lib.hid (ofF_any _ _ _ hsz (fun z hz => by rw [List.mem_replicate] at hz; omega) (by simp; omega))
        have HMK := Lib.hid hmk
        have hmk2 := hmk w2
        clear hsz hmk
        go_wp2_with fail
        refine HOF.out.mono ?_
        rintro e1 w3 ⟨vs, LS0, rfl, hrow, hvals, hb⟩
        have HB3 := Lib.hid (HB2.out.trans ((((Below.refl w2.heap.size w2).alloc (Nat.le_refl _) _).trans (hb.mono (by simp))).mono HB2.out.size))
        have hBB : (chkW w d o k cap false oa d ca r.b of k cf den).heap.size ≤ (w2.alloc (.cells (madeCells #[.int .i64 0] (d + 1)) 3)).heap.size := Nat.le_trans HB2.out.size (by simp)
        obtain ⟨B, hB⟩ : ∃ B, (w2.alloc (.cells (madeCells #[.int .i64 0] (d + 1)) 3)).heap.size = B := ⟨_, rfl⟩
        rw [hB] at hBB hrow
        have HBB := Lib.hid hBB
        have HB3' := Lib.hid (show B ≤ w3.heap.size by have := hb.size; omega)
        have hl0 : LS0.length = d + 1 := by have := congrArg List.length hvals; simpa [vals] using this
        have hown0 := hrow.own
        rw [hl0] at hown0
        obtain ⟨gs, cs, _, rfl, _, _, _, hcs⟩ := own_cell hown0 (show 0 < d + 1 by omega)
        clear hown0 hl0 hb hB hmk2 HMK HOF
        clear p0 p1 x0 x1 x2 f0 f1
        obtain ⟨hbw, ⟨p0, p1⟩, ⟨x0, x1, x2⟩, ⟨f0, f1⟩, _⟩ := (HFF.out w3 HB3.out).out
        clear hbw
        go_wp2_with fail
        go_loopw [71] (fun i wr => ∃ (j : Nat) (LS : List Num), j ≤ k ∧ i = .int .i64 j ∧ RowF wr B (.slice (some ⟨gs, 0, none⟩) (d + 1) cs) LS ∧ Hid (vals LS = sumK d rs ws j) ∧ Hid (∀ i (h : i < rs.length) (h' : i < ws.length), i < j → ¬ (ws[i] < 0 ∧ rs[i].eq = false)) ∧ Hid (Below (chkW w d o k cap false oa d ca r.b of k cf den).heap.size (chkW w d o k cap false oa d ca r.b of k cf den) wr) ∧ Hid (B ≤ wr.heap.size)) (fun i _ => k - (intOf i).toNat)
        case atStart => exact ⟨0, LS0, Nat.zero_le _, rfl, by simpa using hrow, hvals, fun i _ _ h => by omega, HB3, HB3'⟩
        case round =>
          obtain ⟨j, LS, hj, rfl, hrow, hvals, hbad, hB, hBs⟩ := hrel
          by_cases hlt : j < k
          · clear p0 p1 x0 x1 x2 f0 f1
            obtain ⟨hbw, ⟨p0, p1⟩, ⟨x0, x1, x2⟩, ⟨f0, f1⟩, _⟩ := (HFF.out wr hB.out).out
            have hs3 : w.heap.size + 1 + 1 + 1 ≤ wr.heap.size := by have := hB.out.size; rwa [chkW_size] at this
            have hs20 : w.heap.size + 1 + 1 < wr.heap.size := by omega
            have hs10 : w.heap.size + 1 < wr.heap.size := by omega
            have hs00 : w.heap.size < wr.heap.size := by omega
            have hj' : j < rs.length := by have := HN.out; omega
            have hjw : j < ws.length := by have := HN.out; have := HLW.out; omega
            obtain ⟨b, off, cap', oa', ca', e1, hbl, h1, h2, h3, h4⟩ := (HV.out.below hbw (Nat.le_refl _)).get hj'
            simp only [Value.slice.injEq] at e1
            obtain ⟨rfl, hnn, rfl⟩ := e1
            clear hnn
            have hld : rs[j].a.length = d := by have := HALL.out _ (List.getElem_mem hj'); omega
            rw [hld] at h2 h3
            have hs1 : SliceI wr (.slice of k cf) ws := by have := hF.out; rw [HLW.out, HN.out] at this; exact this.below hbw (Nat.le_refl _)
            obtain ⟨o', c', e, hc⟩ := hs1
            obtain ⟨bo, oo, rfl, hbol, hcs'⟩ := hc (by intro e; rw [e] at hjw; simp at hjw)
            simp only [Value.slice.injEq] at e
            obtain ⟨rfl, he, rfl⟩ := e
            clear he hc
            have hcell : wr.cell? ⟨bo, oo + j, none⟩ = some (.int .i64 ws[j]) := hcs' j hjw
            have HT := Lib.hid (sumK_succ (d := d) hj' hjw)
            have hHR := half_row (HBIG.out _ (List.getElem_mem hj'))
            have hTB := okB_le HK.out _ (List.getElem_mem hjw)
            have hT64 := hw64.get j hjw
            have HNB : ws[j] < 0 ∧ rs[j].eq = false → Hid (¬ Holds d rs r ws den) := fun h hh => hh.1 j hj' hjw h
            have HBN : ¬ (ws[j] < 0 ∧ rs[j].eq = false) → Hid (∀ i (h : i < rs.length) (h' : i < ws.length), i < j + 1 → ¬ (ws[i] < 0 ∧ rs[i].eq = false)) := fun h i hi hi' hlt => by
              by_cases e : i = j
              · subst e; exact h
              · exact hbad.out i hi hi' (by omega)
            obtain ⟨t, ht⟩ : ∃ t, ws[j] = t := ⟨_, rfl⟩
            obtain ⟨R, hR⟩ : ∃ R, rs[j] = R := ⟨_, rfl⟩
            rw [ht] at hcell HT hTB hT64 HNB HBN
            rw [hR] at h1 h3 h4 HT hHR HNB HBN hld
            have HHR := Lib.hid hHR
            have HTB := Lib.hid hTB
            have HLD := Lib.hid hld
            have HH3 := Lib.hid h3
            have HROW := Lib.hid hrow
            have HBWR := Lib.hid hbw
            clear ht hR hcs' hHR hTB hbad hld h3 hrow hbw
            go_wp2_with fail
            refine (newInt_any t _ hT64.1 hT64.2).mono ?_
            rintro e1 w4 ⟨bw, Sw, rfl, hfw, hSw, hb4⟩
            have hb4' : Below wr.heap.size wr w4 := ((Below.refl wr.heap.size wr).alloc (Nat.le_refl _) (.cells #[.bool R.eq, .slice oa' d ca', .int .i64 R.b] 31)).trans (hb4.mono (by simp))
            have c0 : w4.cell? ⟨wr.heap.size, 0, none⟩ = some (.bool R.eq) := (hb4.cell (p := ⟨wr.heap.size, 0, none⟩) (by simp)).trans (by simp)
            have c1 : w4.cell? ⟨wr.heap.size, 1, none⟩ = some (.slice oa' d ca') := (hb4.cell (p := ⟨wr.heap.size, 1, none⟩) (by simp)).trans (by simp)
            have c2 : w4.cell? ⟨wr.heap.size, 2, none⟩ = some (.int .i64 R.b) := (hb4.cell (p := ⟨wr.heap.size, 2, none⟩) (by simp)).trans (by simp)
            have HS4 := Lib.hid (sign_any bw t Sw w4 hfw)
            have HFW := Lib.hid hfw
            have HSW := Lib.hid hSw
            have HB4 := Lib.hid hb4'
            have hsg := sign_lt t
            by_cases hneg : t < 0 ∧ R.eq = false
            · have HEND := Lib.hid (ChkEnd.ok (a := a) (d := d) (rs := rs) (r := r) (ws := ws) (den := den) (by rw [HG.out, HK.out]; rfl) false ⟨fun h => (by cases h), fun h => absurd h (HNB hneg).out⟩)
              obtain ⟨hn1, hn2⟩ := hneg
              have hsg' : decide (t.sign < 0) = true := by rw [hsg]; simpa using hn1
              rw [hn2] at c0
              clear hsg HNB HBN hfw hSw hb4 hb4'
              generalize t.sign = sg at *
              go_wp2_with fail
              refine HS4.out.mono ?_
              rintro e1 w5 ⟨rfl, rfl⟩
              go_wp2_with fail
              go_ret2
              exact ⟨HEND.out, HBWR.out.trans (HB4.out.mono HBWR.out.size)⟩
            · have HBN' := HBN hneg
              have hBw : B ≤ wr.heap.size := hBs.out
              have hBw4 : B ≤ w4.heap.size := Nat.le_trans hBw hb4'.size
              have hfam4 : Fam w4 B (LS ++ [(bw, t, Sw)]) := (HROW.out.fam.below ((Below.refl wr.heap.size wr).alloc (Nat.le_refl _) (.cells #[.bool R.eq, .slice oa' d ca', .int .i64 R.b] 31)) (Nat.le_refl _)).push hb4 hfw hSw (by simp; omega)
              have hos4 := ownsRow_below HROW.out.own hb4' (Nat.le_refl _)
              have hsl : SliceI w4.drew (.slice oa' d ca') R.a := (HH3.out.below hb4' (Nat.le_refl _)).drew'
              have h64a : I64 R.a := fun z hz => by have := HHR.out z (List.mem_append_left _ hz); omega
              have hRb := HHR.out R.b (by simp [rowN])
              have HOF := Lib.hid (ofF_any _ _ _ hsl h64a (by have := HLD.out; omega))
              have HF4 := Lib.hid hfam4
              have HO4 := Lib.hid hos4
              have hs4 : wr.heap.size < w4.heap.size := by have := hb4.size; simp at this; omega
              clear HBN HNB hfam4 hos4 hsl h64a hfw hSw hb4 hb4'
              have hkeep : ∀ w5, Below w4.heap.size w4 w5 → Hid (w5.cell? ⟨wr.heap.size, 1, none⟩ = some (.slice oa' d ca') ∧ w5.cell? ⟨wr.heap.size, 2, none⟩ = some (.int .i64 R.b)) := fun w5 hb => ⟨(hb.cell (p := ⟨wr.heap.size, 1, none⟩) hs4).trans c1, (hb.cell (p := ⟨wr.heap.size, 2, none⟩) hs4).trans c2⟩
              have HKP := Lib.hid hkeep
              clear hkeep
              have hcase : decide (t < 0) = false ∨ (decide (t < 0) = true ∧ R.eq = true) := by
                by_cases h1 : t < 0
                · right
                  refine ⟨by simpa using h1, ?_⟩
                  cases hq : R.eq
                  · exact absurd ⟨h1, hq⟩ hneg
                  · rfl
                · left; simpa using h1
              rcases hcase with hpos | ⟨hpos, hre'⟩
              case' inr => rw [hre'] at c0
              all_goals
                rw [hpos] at hsg
                generalize t.sign = sg at *
                go_upto_region 21 with (first | (go_at_call 47; refine HS4.out.mono ?_; rintro e1 w5 ⟨rfl, rfl⟩) | fail)
                go_region_held3 (fun w' => w'.cell? ⟨wr.heap.size, 1, none⟩ = some (.slice oa' d ca') ∧ w'.cell? ⟨wr.heap.size, 2, none⟩ = some (.int .i64 R.b)) (first | exact ⟨c1, c2⟩ | exact ⟨q1, q2⟩ | exact ⟨q3, q4⟩ | exact ⟨r1, r2⟩ | go_keep)
                  (first | (refine step_append_lies _ (by rfl) (.tmp 92) (.tmp 96) 63 (by rfl) w4.drew.heap.size 67 i0 (.pointer none) 1 8 Tryz.underlying63 HI.out HZ0.out HZ1.out HZ2.out rfl (by decide) va d (ptrs LA) (by rfl) (hown6.alloc _) ⟨w6.heap.size, 0, none⟩ 1 1 [.pointer (some ⟨bn, 0, none⟩)] (by rfl) (by rfl) (World.news_of_block (cs := #[.pointer (some ⟨bn, 0, none⟩)]) (t := 67) (fr := (0, 0)) (heap_new w6 _)) (by intro u hu; simp at hu; subst hu; rfl) (by omega) (by unfold maxLen; omega) (by omega) (by simp; omega) (w6.heap.size + 1) (by simp) ?_; intro gg cap1 w7 hown7 hgrow hat hlt7; have r1 := far_cell (hown6.alloc _) hgrow (p := ⟨wr.heap.size, 1, none⟩) hs4 (Nat.lt_of_lt_of_le hs4 hs6) q3; have r2 := far_cell (hown6.alloc _) hgrow (p := ⟨wr.heap.size, 2, none⟩) hs4 (Nat.lt_of_lt_of_le hs4 hs6) q4) | (go_simp; go_at_call 35; refine HOF.out.mono ?_; rintro e1 w5 ⟨va, LA, rfl, hrow5, hvals5, hb5⟩; have hb45 : Below w4.heap.size w4 w5 := (Below.refl w4.heap.size w4).drew.trans hb5; obtain ⟨q1, q2⟩ := (HKP.out w5 hb45).out; have hla5 : LA.length = d := (vals_len hvals5).trans HLD.out; have hown5 := hrow5.own; rw [hla5] at hown5) | (go_simp; go_at_call 39; refine (newInt_any R.b w5 (by omega) (by omega)).mono ?_; rintro e1 w6 ⟨bn, Sn, rfl, hfn, hSn, hb6⟩; have hb46 : Below w4.heap.size w4 w6 := hb45.trans (hb6.mono hb45.size); obtain ⟨q3, q4⟩ := (HKP.out w6 hb46).out; have hown6 := ownsRow_below hown5 hb6 (Nat.le_refl _); have hs6 : w4.heap.size ≤ w6.heap.size := hb46.size))
                have hsl := sumK_length (d := d) (rs := rs) (ws := ws) (fun r hr => by have := HALL.out r hr; omega) j (by omega)
                have hls : LS.length = d + 1 := (vals_len hvals.out).trans hsl
                have hI0 := innStart (R := R) HF4.out HO4.out hls hvals.out hBw4 hb45 hrow5 hvals5 hb6 hfn hSn hown7 hgrow
                have hbw7 : Below wr.heap.size wr w7 := ((HB4.out.trans (hb46.mono HB4.out.size)).alloc (Nat.le_trans HB4.out.size hs6) _).grown hgrow (by rw [World.size_alloc]; omega) (fun g hg => Nat.le_trans (Nat.le_of_lt hs4) (hown6.lt g hg).1)
                have HB7 := Lib.hid (hB.out.trans (hbw7.mono hB.out.size))
                have HBs7 := Lib.hid (Nat.le_trans hBw hbw7.size)
                have HSL := Lib.hid hsl
                clear hls hsl hown7 hgrow hown6 hfn hSn hb6 hrow5 hvals5 hb45 hb46 q1 q2 q3 q4 r1 r2 hbw7 hat hlt7
                go_wp2_with fail
                go_loopw [99] (fun i wx => ∃ (m : Nat) (LS' LA' : List Num), m ≤ d + 1 ∧ i = .int .i64 m ∧ Inn wx B d (.slice (some ⟨gs, 0, none⟩) (d + 1) cs) (.slice (some ⟨gg, 0, none⟩) (d + 1) cap1) bw t Sw (sumK d rs ws j) (rowN R) m LS' LA' ∧ Hid (Below (chkW w d (some ⟨b, off, none⟩) k cap false oa d ca r.b (some ⟨bo, oo, none⟩) k cf den).heap.size (chkW w d (some ⟨b, off, none⟩) k cap false oa d ca r.b (some ⟨bo, oo, none⟩) k cf den) wx) ∧ Hid (B ≤ wx.heap.size)) (fun i _ => d + 1 - (intOf i).toNat)
                case atStart => exact ⟨0, _, _, Nat.zero_le _, rfl, hI0, HB7, HBs7⟩
                case round =>
                  obtain ⟨m, LS', LA', hm, rfl, hI, hBx, hBsx⟩ := hrel
                  by_cases hlt : m < d + 1
                  · have hxl : (rowN R).length = d + 1 := by simp [rowN, HLD.out]
                    obtain ⟨bs, ba, Ss, Sa, hgs, hgg, cS, cA, fS, fA, iS, iA, iW, hne, hBSs, hBSa, hps⟩ := hI.get' HSL.out hxl hlt
                    have hxb := HHR.out _ (List.getElem_mem (show m < (rowN R).length by omega))
                    have hyb := sumK_bound (d := d) (fun r hr => half_row (HBIG.out r hr)) (okB_le HK.out) j (by have := HN.out; omega) (by have := HN.out; have := HLW.out; omega) _ (List.getElem_mem (show m < (sumK d rs ws j).length by have := HSL.out; omega))
                    obtain ⟨x, hx⟩ : ∃ x, (rowN R)[m]'(by omega) = x := ⟨_, rfl⟩
                    obtain ⟨y, hy⟩ : ∃ y, (sumK d rs ws j)[m]'(by have := HSL.out; omega) = y := ⟨_, rfl⟩
                    rw [hx] at hxb fA iA
                    rw [hy] at hyb fS iS
                    have hpb := wprod hxb HTB.out
                    have HMUL := Lib.hid (mul_any ba ba bw x x t Sa Sa Sw wr.drew (iA.to fun _ _ => rfl) (iA.to fun _ _ => rfl) (iW.to fun _ _ => rfl) hne (by omega) (by have := HTB.out; omega))
                    have HI' := Lib.hid hI
                    have HMID : ∀ w1 S1, IntF w1 ba (x * t) S1 → (∀ q, q ∈ S1 → q ∈ Sa ∨ wr.drew.heap.size ≤ q) → Chg Sa wr.drew w1 → Hid (Fam w1 B (LS' ++ (bw, t, Sw) :: LA'.set m (ba, x * t, S1)) ∧ w1.ownsRow B 67 1 (.slice (some ⟨gs, 0, none⟩) (d + 1) cs) (d + 1) (ptrs LS') ∧ w1.ownsRow B 67 1 (.slice (some ⟨gg, 0, none⟩) (d + 1) cap1) (d + 1) (ptrs LA')) := fun w1 S1 h1 h2 h3 => HI'.out.mul fA h1 h2 ((Chg.refl Sa wr).drew.trans h3)
                    have HMD := Lib.hid HMID
                    have HAD : ∀ w1 w2 S1 S2, Hid (Fam w1 B (LS' ++ (bw, t, Sw) :: LA'.set m (ba, x * t, S1)) ∧ w1.ownsRow B 67 1 (.slice (some ⟨gs, 0, none⟩) (d + 1) cs) (d + 1) (ptrs LS') ∧ w1.ownsRow B 67 1 (.slice (some ⟨gg, 0, none⟩) (d + 1) cap1) (d + 1) (ptrs LA')) → IntF w2 bs (y + x * t) S2 → (∀ q, q ∈ S2 → q ∈ Ss ∨ w1.heap.size ≤ q) → Chg Ss w1 w2 → Hid (Inn w2 B d (.slice (some ⟨gs, 0, none⟩) (d + 1) cs) (.slice (some ⟨gg, 0, none⟩) (d + 1) cap1) bw t Sw (sumK d rs ws j) (rowN R) (m + 1) (LS'.set m (bs, y + x * t, S2)) (LA'.set m (ba, x * t, S1))) := fun w1 w2 S1 S2 h1 h2 h3 h4 => HI'.out.add hlt HSL.out hxl fA fS h1.out h2 h3 h4 hx.symm hy.symm
                    have HADD := Lib.hid HAD
                    have HXP := Lib.hid (show (x * t).natAbs < 18446744073709551616 * 18446744073709551616 by omega)
                    have HYP := Lib.hid (show y.natAbs < 18446744073709551616 * 18446744073709551616 by
                      have : j * 9903520314283042199192993792 ≤ 24 * 9903520314283042199192993792 := Nat.mul_le_mul_right _ (by omega)
                      omega)
                    have HBA := Lib.hid hBSa
                    have HBS := Lib.hid hBSs
                    have HFS := Lib.hid fS
                    have hpl : LS'.length = d + 1 := own_length hI.os
                    have hps2 : ∀ S2, (ptrs (LS'.set m (bs, y + x * t, S2)))[m]? = some (.pointer (some ⟨bs, 0, none⟩)) := fun S2 => by rw [ptrs_set fS]; exact hps
                    have HPS := Lib.hid hps
                    have HPS2 := Lib.hid hps2
                    clear hI fA fS iS iA iW hBSs hBSa hxb hyb hpb hx hy hxl hpl HMID HAD hps hps2
                    go_upto_region 24 with fail
                    go_region_held3 (fun w' => w'.cell? ⟨gs, m, none⟩ = some (.pointer (some ⟨bs, 0, none⟩))) (first | exact cS | exact k1 | exact k2 | go_keep) (first | (go_simp; go_at_call 49; refine HMUL.out.mono ?_; rintro e1 w8 ⟨S1, rfl, hf1, hs1, hc1⟩; have hmid := HMD.out w8 S1 hf1 hs1 hc1; have k1 := own_at hmid.out.2.1 hlt HPS.out) | (go_simp; go_at_call 48; refine (add2_any bs ba y (x * t) Ss S1 w8 (sum_int HFS.out hmid.out.1) hf1 HYP.out HXP.out).mono ?_; rintro e1 w9 ⟨S2, rfl, hf2, hs2, hc2⟩; have hadd := HADD.out w8 w9 S1 S2 hmid hf2 hs2 hc2; have k2 := own_at hadd.out.os hlt (HPS2.out S2)))
                    have hz1 := Nat.le_trans HBB.out hBsx.out
                    have hb8 := hBx.out.trans (((Chg.refl Sa wr).drew.trans hc1).below hz1 (fun q hq => Nat.le_trans HBB.out (HBA.out q hq)))
                    have hs8 : B ≤ w8.heap.size := Nat.le_trans hBsx.out hc1.size
                    have hb9 := Lib.hid (hb8.trans (hc2.below (Nat.le_trans HBB.out hs8) (fun q hq => Nat.le_trans HBB.out (HBS.out q hq))))
                    have hs9 := Lib.hid (Nat.le_trans hs8 hc2.size)
                    have hI9 := hadd.out
                    clear hmid hadd hf1 hs1 hc1 hf2 hs2 hc2 k1 k2 HMD HADD HMUL hb8 hs8 hz1
                    go_wp2_with fail
                    go_roundw
                    case rel => exact ⟨m + 1, _, _, by omega, by go_num, hI9, hb9, hs9⟩
                    case measure => simp [intOf]; omega
                  · obtain rfl : m = d + 1 := by omega
                    have hxl : (rowN R).length = d + 1 := by simp [rowN, HLD.out]
                    have hrow' : RowF wr B (.slice (some ⟨gs, 0, none⟩) (d + 1) cs) LS' := ⟨by rw [own_length hI.os]; exact hI.os, hI.fam.left⟩
                    have hv' := Lib.hid (show vals LS' = sumK d rs ws (j + 1) by
                      rw [hI.vals, HT.out, List.take_of_length_le (by rw [addW_length _ (HSL.out.trans hxl.symm)]; have := HSL.out; omega), List.drop_of_length_le (by have := HSL.out; omega), List.append_nil])
                    clear hI hxl
                    go_wp2_with fail
                    go_roundw
                    case rel => exact ⟨j + 1, LS', by omega, by go_num, hrow', hv', HBN', hBx, hBsx⟩
                    case measure => simp [intOf]; omega
          · obtain rfl : j = k := by omega
            clear p0 p1 x0 x1 x2 f0 f1
            obtain ⟨hbw, ⟨p0, p1⟩, ⟨x0, x1, x2⟩, ⟨f0, f1⟩, _⟩ := (HFF.out wr hB.out).out
            have hsl := sumK_length (d := d) (rs := rs) (ws := ws) (fun r hr => by have := HALL.out r hr; omega) j (by have := HN.out; omega)
            have hls : LS.length = d + 1 := (vals_len hvals.out).trans hsl
            have HZE := Lib.hid (rzero_any _ _ _ _ wr (hrow.head hls (by omega : d ≤ d + 1)) (by rw [List.length_take]; omega))
            have hLd : LS[d]? = some LS[d] := by simp
            have HLAST := Lib.hid (hrow.fam.int d LS[d].1 LS[d].2.1 LS[d].2.2 (by rw [hLd]))
            have hown := hrow.own
            rw [hls] at hown
            have hcl : wr.cell? ⟨gs, d, none⟩ = some (.pointer (some ⟨LS[d].1, 0, none⟩)) := own_at hown (by omega) (by rw [ptrs, List.getElem?_map, hLd]; rfl)
            have hvd : LS[d].2.1 = (sumK d rs ws j).getD d 0 := by
              rw [← hvals.out, vals, List.getD_eq_getElem?_getD, List.getElem?_map, hLd]; rfl
            rw [hvd] at HLAST
            obtain ⟨bl, hbl⟩ : ∃ b, LS[d].1 = b := ⟨_, rfl⟩
            rw [hbl] at HLAST hcl
            obtain ⟨SL, hSL⟩ : ∃ S, LS[d].2.2 = S := ⟨_, rfl⟩
            rw [hSL] at HLAST
            clear hSL hbl
            have HROW := Lib.hid hrow
            have HBW9 := Lib.hid hbw
            clear hown hrow hbw hLd hvd
            obtain ⟨gz, hgz⟩ : ∃ g, allZ ((vals LS).take d) = g := ⟨_, rfl⟩
            obtain ⟨zl, hzl⟩ : ∃ z, (sumK d rs ws j).getD d 0 = z := ⟨_, rfl⟩
            rw [hgz] at HZE
            rw [hzl] at HLAST
            have HGZ := Lib.hid (show allZ ((sumK d rs ws j).take d) = gz by rw [← hvals.out]; exact hgz)
            have HZL := Lib.hid hzl
            have HSG := Lib.hid (sign_any bl zl _ wr HLAST.out.1)
            have hsg : decide (0 < zl.sign) = decide (0 < zl) := by
              rcases Int.lt_trichotomy zl 0 with h | h | h
              · rw [Int.sign_eq_neg_one_of_neg h]; simp; omega
              · subst h; rfl
              · rw [Int.sign_eq_one_of_pos h]; simp [h]
            clear hgz hzl
            by_cases hyes : gz = true ∧ 0 < zl
            · obtain ⟨rfl, h0⟩ := hyes
              have hsg' : decide (0 < zl.sign) = true := by rw [hsg]; simpa using h0
              have HEND := Lib.hid (ChkEnd.ok (a := a) (d := d) (rs := rs) (r := r) (ws := ws) (den := den) (by rw [HG.out, HK.out]; rfl) true ⟨fun _ => ⟨fun i h h' => hbad.out i h h' (by have := HN.out; omega), .inl (by rw [HN.out, HGZ.out, HZL.out]; exact ⟨rfl, h0⟩)⟩, fun _ => rfl⟩)
              clear hsg h0
              generalize zl.sign = sg at *
              go_wp2_with fail
              refine HZE.out.mono ?_
              rintro e1 w5 ⟨rfl, rfl⟩
              go_wp2_with fail
              refine HSG.out.mono ?_
              rintro e1 w5 ⟨rfl, rfl⟩
              go_wp2_with fail
              go_ret2
              exact ⟨HEND.out, HBW9.out⟩
            · have hcase : gz = false ∨ (gz = true ∧ decide (0 < zl.sign) = false) := by
                cases gz
                · exact .inl rfl
                · right
                  refine ⟨rfl, ?_⟩
                  rw [hsg]
                  simp only [true_and] at hyes
                  simpa using hyes
              have HNY : Hid (¬ (gz = true ∧ 0 < zl)) := hyes
              have HDB := Lib.hid (show den.natAbs ≤ 4611686018427387904 from toldB_le (by have := HK.out; simp only [okB, Bool.and_eq_true] at this; exact this.1))
              have HNHold : Hid (∀ m, m < d → (sumK d rs ws j).getD m 0 ≠ den * r.a.getD m 0 → ¬ Holds d rs r ws den) := fun m hm hne hh => by
                rcases hh.2 with h1 | h1
                · rw [HN.out, HGZ.out, HZL.out] at h1
                  exact HNY.out h1
                · rw [HN.out] at h1
                  exact hne (h1.1 m hm)
              have HHold : Hid ((∀ m, m < d → (sumK d rs ws j).getD m 0 = den * r.a.getD m 0) → (decide (0 ≤ cmpInt zl (den * r.b)) = true ↔ Holds d rs r ws den)) := fun hs => by
                rw [decide_eq_true_eq, cmpInt_nonneg]
                constructor
                · intro h
                  exact ⟨fun i h h' => hbad.out i h h' (by have := HN.out; omega), .inr (by rw [HN.out, HZL.out]; exact ⟨hs, h⟩)⟩
                · intro hh
                  rcases hh.2 with h1 | h1
                  · rw [HN.out, HGZ.out, HZL.out] at h1
                    exact absurd h1 HNY.out
                  · rw [HN.out, HZL.out] at h1
                    exact h1.2
              have HRB := Lib.hid (half_row HG.out r.b (List.mem_append_right _ (by simp)))
              obtain ⟨b', S', hgs, _⟩ := HROW.out.at (k := d) hls (by omega)
              have HCL := Lib.hid (fun (w9 : World) (hb : Below wr.heap.size wr w9) => (hb.cell (p := ⟨gs, d, none⟩) hgs).trans hcl)
              have HGS := Lib.hid hgs
              clear hsg hyes hgs
              generalize zl.sign = sg at *
              rcases hcase with rfl | ⟨rfl, hsg'⟩
              all_goals
                go_upto_region 29 with (first | (go_at_call 50; refine HZE.out.mono ?_; rintro e1 w5 ⟨rfl, rfl⟩) | (go_at_call 47; refine HSG.out.mono ?_; rintro e1 w5 ⟨rfl, rfl⟩) | fail)
                go_wp2_with fail
                refine (newInt_any den wr (by omega) hden2).mono ?_
                rintro e1 w6 ⟨bd, Sd, rfl, hfd, hSd, hb6⟩
                have HB6 := Lib.hid (hB.out.trans (hb6.mono hB.out.size))
                clear p0 p1 x0 x1 x2 f0 f1
                obtain ⟨hbw, ⟨p0, p1⟩, ⟨x0, x1, x2⟩, ⟨f0, f1⟩, _⟩ := (HFF.out w6 HB6.out).out
                have HBW6 := Lib.hid hbw
                have HB06 := Lib.hid hb6
                have HFD := Lib.hid hfd
                have HSD := Lib.hid hSd
                have HR6 := Lib.hid (HROW.out.below HB06.out (Nat.le_refl _))
                have HLS := Lib.hid hls
                have HSL := Lib.hid hsl
                have HVALS := Lib.hid hvals.out
                have HA36 := Lib.hid (fun (w8 : World) (hb : Below wr.heap.size wr w8) => (⟨(HFF.out w8 (hB.out.trans (hb.mono hB.out.size))).out.2.1.1, (HFF.out w8 (hB.out.trans (hb.mono hB.out.size))).out.2.2.1.2.2, HCL.out w8 hb⟩ : w8.cell? ⟨w.heap.size, 0, none⟩ = some (.int .i64 d) ∧ w8.cell? ⟨w.heap.size + 1, 2, none⟩ = some (.int .i64 r.b) ∧ w8.cell? ⟨gs, d, none⟩ = some (.pointer (some ⟨bl, 0, none⟩))))
                have HC36 := Lib.hid (fun (w8 w9 : World) (hb : Below wr.heap.size wr w8) (hc : Chg Sd w8 w9) => (hb.trans (hc.below hb.size HSD.out) : Below wr.heap.size wr w9))
                have HI36 := Lib.hid (fun (w8 w9 : World) (hb : Below wr.heap.size wr w8) (hc : Chg Sd w8 w9) => ((HLAST.out.1.below hb HLAST.out.1.lt).chg hc (fun q hq hq' => by have h1 := HLAST.out.1.lt q hq; have h2 := HSD.out q hq'; omega) : IntF w9 bl zl _))
                have HNE36 : Hid (bl ≠ bd) := fun e => by
                  have h1 := HLAST.out.1.lt bl HLAST.out.1.head
                  have h2 := HSD.out bd HFD.out.head
                  omega
                have HOUT := Lib.hid (fun (w9 : World) (hb : Below wr.heap.size wr w9) => (HBW9.out.trans (hb.mono HBW9.out.size) : Below w.heap.size w w9))
                have HEF := Lib.hid (fun (g : Bool) (hg : g = true ↔ Holds d rs r ws den) => ChkEnd.ok (a := a) (by rw [HG.out, HK.out]; rfl) g hg)
                clear hbw hb6 hfd hSd hcl hls hsl
                go_wp2_with fail
                go_loopw [139] (fun i wx => ∃ m : Nat, m ≤ d ∧ i = .int .i64 m ∧ Hid (∀ q, q < m → (sumK d rs ws j).getD q 0 = den * r.a.getD q 0) ∧ Below w6.heap.size w6 wx) (fun i _ => d - (intOf i).toNat)
                case atStart => exact ⟨0, Nat.zero_le _, rfl, fun q hq => by omega, Below.refl _ _⟩
                case round =>
                  obtain ⟨m, hm, rfl, hsame, hbx⟩ := hrel
                  by_cases hlt : m < d
                  · obtain ⟨bs, Ss, hgs, cS, iS, hBS⟩ := (HR6.out.below hbx (Nat.le_refl _)).at (k := m) HLS.out (by omega)
                    have hra : SliceI wr (.slice oa d ca) r.a := HR.out.below (HBW6.out.trans (hbx.mono HBW6.out.size)) (Nat.le_refl _)
                    have hma : m < r.a.length := by have := HLA.out; omega
                    obtain ⟨o', c', e, hc⟩ := hra
                    obtain ⟨br, ofr, rfl, hbr, hcr⟩ := hc (by intro e; rw [e] at hma; simp at hma)
                    simp only [Value.slice.injEq] at e
                    obtain ⟨rfl, he, rfl⟩ := e
                    have cR : wr.cell? ⟨br, ofr + m, none⟩ = some (.int .i64 r.a[m]) := hcr m hma
                    clear he hc hcr
                    have hab := half_row HG.out r.a[m] (List.mem_append_left _ (List.getElem_mem hma))
                    obtain ⟨x, hx⟩ : ∃ x, r.a[m] = x := ⟨_, rfl⟩
                    rw [hx] at cR hab
                    have hxg : r.a.getD m 0 = x := by rw [List.getD_eq_getElem?_getD, List.getElem?_eq_getElem hma, hx]; rfl
                    obtain ⟨y, hy⟩ : ∃ y, (vals LS).getD m 0 = y := ⟨_, rfl⟩
                    rw [hy] at iS
                    rw [HVALS.out] at hy
                    have HBX := Lib.hid hbx
                    have HIS := Lib.hid iS
                    have HGSM := Lib.hid hgs
                    have HKU := Lib.hid (fun (w' : World) (hb : Below wr.heap.size wr w') => ((hb.cell (p := ⟨gs, m, none⟩) hgs).trans cS : w'.cell? ⟨gs, m, none⟩ = some (.pointer (some ⟨bs, 0, none⟩))))
                    have HWA := Lib.hid (fun (w8 : World) (hb : Below (wr.drew.alloc (.cells #[.bool false, .slice none 0 0] 71)).heap.size (wr.drew.alloc (.cells #[.bool false, .slice none 0 0] 71)) w8) => (((Below.refl wr.heap.size wr).drew.alloc (Nat.le_refl _) _).trans (hb.mono (by show _ ≤ (wr.alloc _).heap.size; simp)) : Below wr.heap.size wr w8))
                    have HZA := Lib.hid (fun (w8 : World) (hb : Below (wr.drew.alloc (.cells #[.bool false, .slice none 0 0] 71)).heap.size (wr.drew.alloc (.cells #[.bool false, .slice none 0 0] 71)) w8) => ((intF_new wr.drew).below hb (intF_new wr.drew).lt : IntF w8 wr.heap.size 0 [wr.heap.size]))
                    have HSA := Lib.hid (fun (Sn : List Nat) (hs : ∀ k, k ∈ Sn → (wr.drew.alloc (.cells #[.bool false, .slice none 0 0] 71)).heap.size ≤ k) => (fun k hk => Nat.le_trans (by show _ ≤ (wr.alloc _).heap.size; simp) (hs k hk) : ∀ k, k ∈ Sn → wr.heap.size ≤ k))
                    have HMU := Lib.hid (fun (w8 : World) (bz bn : Nat) (Sn : List Nat) (hb : Below wr.heap.size wr w8) (hz : IntF w8 bz 0 [bz]) (hzb : wr.heap.size ≤ bz) (hn : IntF w8 bn x Sn) (hs : ∀ k, k ∈ Sn → wr.heap.size ≤ k) =>
                      ((mul_any bz bd bn 0 den x _ _ _ w8 hz (HFD.out.below (HBX.out.trans (hb.mono HBX.out.size)) HFD.out.lt) hn (fun e => by
                        have h1 := HFD.out.lt bd HFD.out.head
                        have h2 := hs bn hn.head
                        have h4 := HBX.out.size
                        omega) (by have := HDB.out; omega) (by omega)).mono (fun e w9 ⟨S9, h1, h2, _, hc⟩ => ⟨S9, h1, h2, hb.trans (hc.below hb.size (fun q hq => by simp at hq; omega)), (HIS.out.below hb HIS.out.lt).chg hc (fun q hq hq' => by have h1 := HIS.out.lt q hq; simp at hq'; omega), fun e => by have h1 := HIS.out.lt bs HIS.out.head; omega⟩) : Calls Tryz.prog 49 #[.pointer (some ⟨bz, 0, none⟩), .pointer (some ⟨bd, 0, none⟩), .pointer (some ⟨bn, 0, none⟩)] w8 fun e w9 => ∃ S9, e = .returned (.pointer (some ⟨bz, 0, none⟩)) ∧ IntF w9 bz (den * x) S9 ∧ Below wr.heap.size wr w9 ∧ IntF w9 bs y Ss ∧ bs ≠ bz))
                    have HCM := Lib.hid (fun (w9 : World) (bz : Nat) (S9 : List Nat) (h9 : IntF w9 bz (den * x) S9) (h5 : IntF w9 bs y Ss) (hne : bs ≠ bz) => icmp_any bs bz y (den * x) Ss S9 w9 h5 h9 hne)
                    have HB10 := Lib.hid (fun (w9 : World) (hb : Below wr.heap.size wr w9) => (HBX.out.trans (hb.mono HBX.out.size) : Below w6.heap.size w6 w9))
                    have HX64 : Hid (-9223372036854775808 ≤ x ∧ x ≤ 9223372036854775807) := by show _ ∧ _; omega
                    have hb1 : (m : Int) < (d : Int) + 1 := by omega
                    have hb0 : (0 : Int) ≤ (m : Int) := by omega
                    clear iS hBS hbx
                    obtain ⟨cv, hcv⟩ : ∃ c, cmpInt y (den * x) = c := ⟨_, rfl⟩
                    rw [hcv] at HCM
                    go_upto_region 33 with fail
                    have HCV := Lib.hid hcv
                    have HYE : Hid ((sumK d rs ws j).getD m 0 = y) := hy
                    have HXE : Hid (r.a.getD m 0 = x) := hxg
                    have HSAME := Lib.hid hsame.out
                    clear hcv hy hxg hab hsame
                    go_region_held3 (fun w' => w'.cell? ⟨gs, m, none⟩ = some (.pointer (some ⟨bs, 0, none⟩))) (first | exact cS | exact HKU.out _ (hbW.alloc hbW.size _) | exact k1 | exact k2 | exact k3 | go_keep) (first | (go_simp; go_at_call 39; refine (newInt_any x _ HX64.out.1 HX64.out.2).mono ?_; rintro e w8 ⟨bn, Sn, rfl, hfn, hSn, hb8⟩; have hbW := HWA.out w8 hb8; have hz := HZA.out w8 hb8; have hs := HSA.out Sn hSn; have k1 := HKU.out w8 hbW) | (go_simp; go_at_call 39; refine (newInt_any x _ HX64.out.1 HX64.out.2).mono ?_; rintro e w8 ⟨bn, Sn, rfl, hfn, hs, hb8⟩; have hbW : Below wr.heap.size wr w8 := (Below.refl wr.heap.size wr).drew.trans hb8; have k1 := HKU.out w8 hbW) | (go_simp; go_at_call 49; refine (HMU.out w8 _ bn Sn hbW hz (Nat.le_refl _) hfn hs).mono ?_; rintro e w9 ⟨S9, rfl, hf9, hb9, h5, hne⟩; have k2 := HKU.out w9 hb9) | (go_simp; go_at_call 49; refine (HMU.out (w8.alloc _) w8.heap.size bn Sn (hbW.alloc hbW.size _) (intF_new w8) hbW.size (hfn.below ((Below.refl w8.heap.size w8).alloc (Nat.le_refl _) _) hfn.lt) hs).mono ?_; rintro e w9 ⟨S9, rfl, hf9, hb9, h5, hne⟩; have k2 := HKU.out w9 hb9) | (go_simp; go_at_call 51; refine (HCM.out w9 _ S9 hf9 h5 hne).mono ?_; rintro e w10 ⟨rfl, q, rfl⟩; have k3 := HKU.out _ (below_drewN' hb9 q)))
                    all_goals
                      have hb10 := HB10.out _ (below_drewN' hb9 q)
                      have HB10' := Lib.hid hb10
                      clear hb10 hb9 h5 hf9 hne
                      by_cases hyx : y = den * x
                      · have hc0 : (cv != 0) = false := by rw [← HCV.out, cmpInt_ne, decide_eq_true hyx]; rfl
                        have HS2 : Hid (∀ q, q < m + 1 → (sumK d rs ws j).getD q 0 = den * r.a.getD q 0) := fun q hq => by
                          by_cases e : q = m
                          · rw [e, HYE.out, HXE.out]; exact hyx
                          · exact HSAME.out q (by omega)
                        clear hyx
                        go_wp2_with fail
                        go_roundw
                        case rel => exact ⟨m + 1, by omega, by go_num, HS2, HB10'.out⟩
                        case measure => simp [intOf]; omega
                      · have hc0 : (cv != 0) = true := by rw [← HCV.out, cmpInt_ne, decide_eq_false hyx]; rfl
                        have HEND := Lib.hid (HEF.out false ⟨fun h => (by cases h), fun hh => absurd hh (HNHold.out m hlt (by rw [HYE.out, HXE.out]; exact hyx))⟩)
                        clear hyx
                        go_wp2_with fail
                        go_ret2
                        exact ⟨HEND.out, HBW6.out.trans (HB10'.out.mono HBW6.out.size)⟩
                  · obtain rfl : d = m := by omega
                    have HE36 := Lib.hid (HHold.out hsame.out)
                    have HBX := Lib.hid hbx
                    have HB0 := Lib.hid (HB06.out.trans (hbx.mono HB06.out.size))
                    have HBD := Lib.hid (fun (w8 : World) (hb : Below wr.drew.heap.size wr.drew w8) => HB0.out.trans (((Below.refl wr.heap.size wr).drew.trans hb).mono HB0.out.size))
                    have HBD2 := Lib.hid (fun (w8 : World) (hb : Below wr.drew.heap.size wr.drew w8) => HBX.out.trans (((Below.refl wr.heap.size wr).drew.trans hb).mono HBX.out.size))
                    have HMU := Lib.hid (fun (w8 : World) (bn : Nat) (Sn : List Nat) (hb : Below wr.drew.heap.size wr.drew w8) (hn : IntF w8 bn r.b Sn) (hs : ∀ k, k ∈ Sn → wr.drew.heap.size ≤ k) =>
                      mul_any bd bd bn den den r.b Sd Sd Sn w8 (HFD.out.below (HBD2.out w8 hb) HFD.out.lt) (HFD.out.below (HBD2.out w8 hb) HFD.out.lt) hn (fun e => by
                        have h1 := HFD.out.lt bd HFD.out.head
                        have h2 : wr.heap.size ≤ bn := hs bn hn.head
                        have h4 := HBX.out.size
                        omega) (by have := HDB.out; omega) (by have := HRB.out; omega))
                    have HCM := Lib.hid (fun (w9 : World) (S9 : List Nat) (h5 : IntF w9 bl zl SL) (h9 : IntF w9 bd (den * r.b) S9) => icmp_any bl bd zl (den * r.b) SL S9 w9 h5 h9 HNE36.out)
                    obtain ⟨cv, hcv⟩ : ∃ c, cmpInt zl (den * r.b) = c := ⟨_, rfl⟩
                    rw [hcv] at HCM HE36
                    have HR64 : Hid (-9223372036854775808 ≤ r.b ∧ r.b ≤ 9223372036854775807) := by have := HRB.out; show _ ∧ _; omega
                    obtain ⟨k1, k2, k3⟩ := HA36.out wr HB0.out
                    have hd1 : (d : Int) < (d : Int) + 1 := by omega
                    clear hcv hsame hbx
                    go_upto_region 36 with fail
                    go_region_held3 (fun w' => w'.cell? ⟨w.heap.size, 0, none⟩ = some (.int .i64 d) ∧ w'.cell? ⟨w.heap.size + 1, 2, none⟩ = some (.int .i64 r.b) ∧ w'.cell? ⟨gs, d, none⟩ = some (.pointer (some ⟨bl, 0, none⟩))) (first | exact ⟨k1, k2, k3⟩ | exact K1 | exact K2 | exact K3 | go_keep) (first | (go_simp; go_at_call 39; refine (newInt_any r.b _ HR64.out.1 HR64.out.2).mono ?_; rintro e w8 ⟨bn, Sn, rfl, hfn, hSn, hb8⟩; have hb8' := HBD.out w8 hb8; have K1 := HA36.out w8 hb8') | (go_simp; go_at_call 49; refine (HMU.out w8 bn Sn hb8 hfn hSn).mono ?_; rintro e w9 ⟨S9, rfl, hf9, hS9, hc9⟩; have hb9 := HC36.out w8 w9 hb8' hc9; have K2 := HA36.out w9 hb9; have hl9 := HI36.out w8 w9 hb8' hc9) | (go_simp; go_at_call 51; refine (HCM.out w9 S9 hl9 hf9).mono ?_; rintro e w10 ⟨rfl, q, rfl⟩; have hb10 := HOUT.out _ (below_drewN' hb9 q); have K3 := HA36.out _ (below_drewN' hb9 q)))
                    all_goals
                      go_wp2_with fail
                      go_ret2
                      exact ⟨HEF.out _ HE36.out, hb10⟩
end Go.Proofs.YtochcofoknfjfaaGreatDoor
