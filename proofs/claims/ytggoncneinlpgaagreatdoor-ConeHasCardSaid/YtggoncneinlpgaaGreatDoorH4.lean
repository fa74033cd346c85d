/- Words on rows of numbers in memory; walk: exact.Told of many rows. -/
import Derived.Test.YtggoncneinlpgaaGreatDoorX23
import Derived.Test.YtggoncneinlpgaaGreatDoorH12
namespace Go.Proofs.YtggoncneinlpgaaGreatDoor
open Go Go.RowKit Nt

/-- The slice value v holds rows of numbers, all of them from block B on. -/
def RowsR (w : World) (B : Nat) (v : Value) (m : List (List Int)) : Prop :=
  ∃ o cap, v = .slice o m.length cap ∧ (m ≠ [] → ∃ b off, o = some ⟨b, off, none⟩ ∧ b < w.heap.size ∧ ∀ i (h : i < m.length), ∃ rv, w.cell? ⟨b, off + i, none⟩ = some rv ∧ RowAt w B rv m[i])
theorem RowsR.below {w w' : World} {B : Nat} {v : Value} {m : List (List Int)} (h : RowsR w B v m) {B1 : Nat} (hb : Below B1 w w') (hB : w.heap.size ≤ B1) : RowsR w' B v m := by
  obtain ⟨o, cap, rfl, h⟩ := h
  refine ⟨o, cap, rfl, fun hne => ?_⟩
  obtain ⟨b, off, rfl, hlt, hc⟩ := h hne
  refine ⟨b, off, rfl, Nat.lt_of_lt_of_le hlt hb.size, fun i hi => ?_⟩
  obtain ⟨rv, h1, h2⟩ := hc i hi
  exact ⟨rv, (hb.cell (p := ⟨b, off + i, none⟩) (by simp; omega)).trans h1, h2.below hb hB⟩
theorem RowsR.get {w : World} {B : Nat} {v : Value} {m : List (List Int)} (h : RowsR w B v m) {k : Nat} (hk : k < m.length) :
    ∃ b off cap oa ca, v = .slice (some ⟨b, off, none⟩) m.length cap ∧ b < w.heap.size ∧ w.cell? ⟨b, off + k, none⟩ = some (.slice oa m[k].length ca) ∧ RowAt w B (.slice oa m[k].length ca) m[k] := by
  obtain ⟨o, cap, rfl, h⟩ := h
  obtain ⟨b, off, rfl, hlt, hc⟩ := h (by intro e; subst e; simp at hk)
  obtain ⟨rv, h1, h2⟩ := hc k hk
  obtain ⟨ps, h3⟩ := h2
  obtain ⟨oa, ca, rfl, _, _⟩ := h3.form
  exact ⟨b, off, cap, oa, ca, rfl, hlt, h1, ps, h3⟩
/-- A block of integers as an own row. -/
theorem blk_own {w : World} {B b : Nat} {csl : Array Value} {zs : List Int} (hb : Blk w b csl 3) (hs : csl.size = zs.length) (hc : ∀ i (h : i < zs.length), csl[i]? = some (.int .i64 zs[i])) (hB : B ≤ b) (hm : zs.length ≤ 1000000) :
    w.ownsRow B 3 1 (.slice (some ⟨b, 0, none⟩) zs.length zs.length) zs.length (zs.map (Value.int .i64)) := by
  refine ⟨by simp, .inr ⟨b, zs.length, csl, rfl, hB, hb, Nat.le_refl _, by unfold maxLen; omega, by omega, ?_⟩⟩
  apply List.ext_getElem?
  intro i
  by_cases hi : i < zs.length
  · rw [List.getElem?_take_of_lt (by omega), Array.getElem?_toList, hc i hi, List.getElem?_map, List.getElem?_eq_getElem hi]
    rfl
  · rw [List.getElem?_eq_none (by rw [List.length_take]; omega), List.getElem?_eq_none (by simp; omega)]

set_option maxRecDepth 100000 in
set_option maxHeartbeats 2000000 in
theorem told_many (v : Value) (m : List (List Int)) (B0 : Nat) (w : World) (hv : RowsR w B0 v m) (hfit : ∀ r ∈ m, Fit r) (hl : m.length ≤ 1000) (hM : ∀ r ∈ m, r.length ≤ 1000000) :
    Calls Tryz.prog 39 #[v] w fun e w' => ∃ u, e = .returned (.tuple #[u, .bool true]) ∧ MatAt w' u m ∧ Below w.heap.size w w' := by
  have HV := Lib.hid hv
  have HM := Lib.hid hM
  have HFI := Lib.hid hfit
  obtain ⟨i0, hi, hzz⟩ := Option.map_eq_some_iff.1 infoSl
  simp only [Prod.mk.injEq] at hzz
  obtain ⟨hz0, hz1, hz2⟩ := hzz
  have HI := Lib.hid hi
  have HZ0 := Lib.hid hz0
  have HZ1 := Lib.hid hz1
  have HZ2 := Lib.hid hz2
  clear hi hz0 hz1 hz2
  obtain ⟨o, cap, rfl, hc⟩ := hv
  clear hc hM hfit
  obtain ⟨n, hn⟩ : ∃ n, m.length = n := ⟨_, rfl⟩
  rw [hn] at HV hl ⊢
  have HN := Lib.hid hn
  clear hn
  go_enter Tryz.func39, Tryz.ntmps39
  go_wp2_with fail
  refine (newInt_any 4611686018427387904 w (by omega) (by omega)).mono ?_
  rintro e w1 ⟨bm, Sm, rfl, hm, hSm, hb1⟩
  have HMM := Lib.hid hm
  have HB1 := Lib.hid hb1
  clear hm hSm hb1
  go_wp2_with fail
  go_loopw [4, 14] (fun ov i wr => ∃ (k : Nat) (xs : List Value), k ≤ n ∧ i = .int .i64 k ∧ OwnMat wr w1.heap.size ov (m.take k) xs ∧ Below w1.heap.size w1 wr) (fun _ i _ => n - (intOf i).toNat)
  case atStart => exact ⟨0, [], Nat.zero_le _, rfl, OwnMat.nil _ _, Below.refl _ _⟩
  case round =>
    obtain ⟨k, xs, hk, rfl, hown, hbw⟩ := hrel
    by_cases hlt : k < n
    · have hk' : k < m.length := by have := HN.out; omega
      have hbw0 := HB1.out.trans (hbw.mono HB1.out.size)
      obtain ⟨b, off, cap', oa, ca, e1, hbl, h2, h3⟩ := (HV.out.below hbw0 (Nat.le_refl _)).get hk'
      simp only [Value.slice.injEq] at e1
      obtain ⟨rfl, hnn, rfl⟩ := e1
      clear hnn
      have hla := HM.out _ (List.getElem_mem hk')
      have hfr := HFI.out _ (List.getElem_mem hk')
      have HT := Lib.hid (List.take_succ_eq_append_getElem hk')
      have HLT := Lib.hid (show (m.take k).length = k by rw [List.length_take]; omega)
      obtain ⟨r, hr⟩ : ∃ r, m[k]'hk' = r := ⟨_, rfl⟩
      rw [hr] at h2 h3 hla hfr HT
      have HFR := Lib.hid hfr
      have HROW : Hid (∃ ps, RowP wr B0 (.slice oa r.length ca) r ps) := h3
      obtain ⟨la, hlar⟩ : ∃ n, r.length = n := ⟨_, rfl⟩
      rw [hlar] at h2 hla HROW
      have HLA := Lib.hid hlar
      have HOWN := Lib.hid hown
      have HBW := Lib.hid hbw
      have HOB := Lib.hid (fun (wx : World) (hb : Below wr.heap.size wr wx) => hown.below hb)
      have hmk : ∀ w, (Instr.makeSlice 23 (.int .i64 la) (.int .i64 la)).run Tryz.prog w = .ok (.slice (some ⟨w.heap.size, 0, none⟩) la la) (w.alloc (.cells (madeCells #[.int .i64 0] la) 3)) := fun w => run_make_row' (P := Tryz.prog) 23 3 (.int .i64 0) 8 Tryz.underlying23 info3 rfl .i64 .i64 la (by omega) (by omega) w
      have hmk1 := hmk wr
      have HSZ := Lib.hid hbw.size
      have HAB := Lib.hid ((Below.refl wr.heap.size wr).alloc (Nat.le_refl _) (.cells (madeCells #[.int .i64 0] la) 3))
      have HBI := Lib.hid (fun (wx : World) (hb : Below wr.heap.size wr wx) => HBW.out.trans (hb.mono HBW.out.size))
      have HMX := Lib.hid (fun (wx : World) (hb : Below wr.heap.size wr wx) => HMM.out.below (HBI.out wx hb) HMM.out.lt)
      have HNB := Lib.hid (Blk.new wr (madeCells #[.int .i64 0] la) 3)
      clear hr h3 hown hbw hbw0 hfr hlar hmk
      go_wp2_with fail
      clear hmk1
      obtain ⟨bl, hbl2⟩ : ∃ b, wr.heap.size = b := ⟨_, rfl⟩
      rw [hbl2] at HNB HSZ
      rw [hbl2]
      have HBE := Lib.hid (Nat.le_of_eq hbl2)
      clear hbl2
      go_loopw [23] (fun i wx => ∃ (j : Nat) (csl : Array Value), j ≤ la ∧ i = .int .i64 j ∧ Blk wx bl csl 3 ∧ Hid (csl.size = la) ∧ Hid (∀ i (h : i < r.length), i < j → csl[i]? = some (.int .i64 r[i])) ∧ Hid (Below wr.heap.size wr wx)) (fun i _ => la - (intOf i).toNat)
      case atStart => exact ⟨0, _, Nat.zero_le _, rfl, HNB.out, size_madeCells _ _, fun i h h0 => by omega, HAB.out⟩
      case round =>
        obtain ⟨j, csl, hj, rfl, hblk, hsz, hcs, hbx⟩ := hrel
        by_cases hlt2 : j < la
        · have hj' : j < r.length := by have := HLA.out; omega
          obtain ⟨ps, hrow⟩ := HROW.out
          obtain ⟨a, cap1, ha, _, hac, hcells⟩ := hrow.cell (by omega)
          obtain ⟨p, hp, hc⟩ := hcells j hj'
          obtain ⟨p', hp', bz, Sz, rfl, hz, hSz⟩ := hrow.ints j hj'
          rw [hp] at hp'
          obtain rfl := Option.some.inj hp'
          simp only [Value.slice.injEq] at ha
          obtain ⟨rfl, hnn, rfl⟩ := ha
          clear hnn
          have hcz : wr.cell? ⟨a, j, none⟩ = some (.pointer (some ⟨bz, 0, none⟩)) := (hbx.out.cell (p := ⟨a, j, none⟩) hac).trans hc
          have hz' : IntF wr bz r[j] Sz := hz.below hbx.out hz.lt
          have hm' : IntF wr bm 4611686018427387904 Sm := HMX.out wr hbx.out
          have hle : r[j].natAbs ≤ 4611686018427387904 := HFR.out _ (List.getElem_mem hj')
          have hcmp : decide (0 < cmpI r[j].natAbs (4611686018427387904 : Int).natAbs) = false := by
            unfold cmpI
            have : (4611686018427387904 : Int).natAbs = 4611686018427387904 := rfl
            rw [this]
            simp only [decide_eq_false_iff_not]
            split
            · omega
            · split <;> omega
          obtain ⟨cv, hcv⟩ : ∃ c, cmpI r[j].natAbs (4611686018427387904 : Int).natAbs = c := ⟨_, rfl⟩
          have hcall := Lib.hid (cmpAbs_any bz bm r[j] 4611686018427387904 _ _ wr hz' hm')
          rw [hcv] at hcmp hcall
          have h64 : ∀ q, Hid (Calls Tryz.prog 60 #[.pointer (some ⟨bz, 0, none⟩)] (wr.drewN q) fun e w' => e = .returned (.int .i64 r[j]) ∧ w' = wr.drewN q) := fun q => int64_any bz r[j] Sz (wr.drewN q) hz' (by omega) (by omega)
          have hcx := (hblk.cell j).trans (show csl[j]? = some (csl[j]'(by have := hsz.out; omega)) by simp)
          have hcf := hblk.free j
          have hjk : j < csl.size := by have := hsz.out; omega
          obtain ⟨z, hzk⟩ : ∃ z, r[j] = z := ⟨_, rfl⟩
          have hcsn : ∀ csl' : Array Value, csl'.size = csl.size → csl'[j]? = some (.int .i64 r[j]) → (∀ i, i ≠ j → csl'[i]? = csl[i]?) → Hid (csl'.size = la) ∧ Hid (∀ i (h : i < r.length), i < j + 1 → csl'[i]? = some (.int .i64 r[i])) := fun csl' h1 h2 h3 => ⟨h1.trans hsz.out, fun i hi hlt' => by
            by_cases e : i = j
            · subst e; exact h2
            · rw [h3 i e]; exact hcs.out i hi (by omega)⟩
          simp only [hzk] at h64
          generalize csl[j]'(by have := hsz.out; omega) = old at hcx
          have HZK := Lib.hid hzk
          have HCSN := Lib.hid hcsn
          have HBLK := Lib.hid hblk
          have HH64 := Lib.hid h64
          have HBL := Lib.hid (fun (q : Nat) (u : Value) => hbx.out.trans ((Below.setCell (p := ⟨bl, j, none⟩) (below_drewN' (Below.refl bl wr) q) (Nat.le_refl _) u).mono HBE.out))
          clear hzk hcv hc hcells hp hz hSz hz' hm' hle hrow hcsn h64 hblk
          go_wp2_with fail
          refine hcall.out.mono ?_
          rintro e w2 ⟨rfl, q, rfl⟩
          go_wp2_with fail
          refine (HH64.out q).out.mono ?_
          rintro e w2 ⟨rfl, rfl⟩
          obtain ⟨csl', hb', hs', hv', ho'⟩ := Blk.of_set (w := wr.drewN q) (i := j) (Blk.drewN HBLK.out q) (.int .i64 z) hjk
          obtain ⟨H1, H2⟩ := HCSN.out csl' hs' (by rw [HZK.out]; exact hv') ho'
          have hbn := Lib.hid (HBL.out q (.int .i64 z))
          clear hs' hv' ho' hcall
          go_wp2_with fail
          go_roundw
          case rel => exact ⟨j + 1, csl', by omega, by go_num, hb', H1, H2, hbn⟩
          case measure => simp [intOf]; omega
        · obtain rfl : la = j := by omega
          have hlr : r.length = la := HLA.out
          have HU := Lib.hid (blk_own (B := w1.heap.size) (zs := r) hblk (hsz.out.trans hlr.symm) (fun i hi => hcs.out i hi (by omega)) (by have := HSZ.out; omega) (by omega))
          rw [hlr] at HU
          have HO := Lib.hid (HOB.out wr hbx.out)
          have hownk := HO.out.own
          rw [HLT.out] at hownk
          have HBX := Lib.hid (HBI.out wr hbx.out)
          have hsz1 := HBX.out.size
          clear hblk hsz hcs hbx hlr
          go_wp2_with (at_builtin; refine wpList_append_own _ rfl (.tmp 38) (.tmp 40) 22 rfl w1.heap.size 23 i0 (.slice none 0 0) 1 24 Tryz.underlying22 HI.out HZ0.out HZ1.out HZ2.out rfl (by decide) _ k xs rfl (hownk.alloc _) ⟨wr.heap.size, 0, none⟩ 1 1 [.slice (some ⟨bl, 0, none⟩) la la] rfl rfl ?c1 ?c2 ?c3 ?c4 ?c5 ?_)
          case c1 =>
            intro j u hj
            match j, hj with
            | 0, hj => simp at hj; subst hj; simp [Addr.add]
          case c2 => intro u' hu'; simp at hu'; subst hu'; rfl
          case c3 => unfold maxLen; omega
          case c4 => omega
          case c5 => simp; omega
          · intro v' w2 hown' hgrow _
            have hb1a : Below wr.heap.size wr (wr.alloc (.cells #[.slice (some ⟨bl, 0, none⟩) la la] 23)) := (Below.refl _ _).alloc (Nat.le_refl _) _
            have hO := (HO.out.below hb1a).push (r := r) (by rw [HLA.out]; exact ownsRow_below HU.out hb1a (Nat.le_refl _)) (by rw [HLT.out]; exact hown') hgrow
            rw [← HT.out] at hO
            have hbw2 : Below w1.heap.size w1 w2 := (HBX.out.alloc (by omega) _).grown hgrow (by simp; omega) (fun k hk => (hownk.lt k hk).1)
            have HO2 := Lib.hid hO
            clear hO hown' hgrow hownk hb1a
            go_wp2_with fail
            go_roundw
            case rel => exact ⟨k + 1, _, by omega, by go_num, HO2.out, hbw2⟩
            case measure => simp [intOf]; omega
    · obtain rfl : k = n := by omega
      have HR := Lib.hid hown.matAt
      rw [List.take_of_length_le (by have := HN.out; omega)] at HR
      have HBZ := Lib.hid (HB1.out.trans (hbw.mono HB1.out.size))
      clear hown hbw
      go_wp2_with fail
      go_ret2
      exact ⟨_, rfl, HR.out, HBZ.out⟩
end Go.Proofs.YtggoncneinlpgaaGreatDoor
