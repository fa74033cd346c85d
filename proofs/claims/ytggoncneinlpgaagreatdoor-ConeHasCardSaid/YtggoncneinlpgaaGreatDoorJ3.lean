/- Walk of the reference: ConeError. -/
import Derived.Test.YtggoncneinlpgaaGreatDoorH67
import Derived.Test.YtggoncneinlpgaaGreatDoorH12
import Derived.Laws.AppendOwnNone
import Derived.Deep.DeepCutAuto
namespace Go.Proofs.YtggoncneinlpgaaGreatDoor
open Go Go.RowKit Nt

theorem cell_ltJ {w : World} {p : Addr} {u : Value} (h : w.cell? p = some u) : p.block < w.heap.size := by
  rcases Nat.lt_or_ge p.block w.heap.size with h1 | h1
  · exact h1
  · simp [World.cell?, Array.getElem?_eq_none h1] at h
/-- A matrix's rows as cells. -/
theorem MatAt.cells {w : World} {o : Option Addr} {n cap : Nat} {m : List (List Int)} (h : MatAt w (.slice o n cap) m) :
    n = m.length ∧ ∃ L : List Value, L.length = m.length ∧ (∀ ad, o = some ad → ∀ j u, L[j]? = some u → w.cell? (ad.add j) = some u) ∧ (∀ i (h : i < m.length), ∃ av, L[i]? = some av ∧ SliceI w av m[i]) ∧ (o = none → m = [] ∧ cap = 0) ∧ ∀ u ∈ L, u.oneCell' = true := by
  obtain ⟨o', cap', e, hc, h0⟩ := h
  simp only [Value.slice.injEq] at e
  obtain ⟨rfl, rfl, rfl⟩ := e
  refine ⟨rfl, ?_⟩
  by_cases hne : m = []
  · subst hne
    exact ⟨[], rfl, fun _ _ j u h => by simp at h, fun i h => by simp at h, fun e => ⟨rfl, h0 e⟩, fun u h => by simp at h⟩
  · obtain ⟨b, off, rfl, hb, hcs⟩ := hc hne
    have hex : ∀ i, ∃ av : Value, i < m.length → w.cell? ⟨b, off + i, none⟩ = some av ∧ ∃ h : i < m.length, SliceI w av m[i] := fun i => by
      by_cases hi : i < m.length
      · obtain ⟨av, h1, h2⟩ := hcs i hi
        exact ⟨av, fun _ => ⟨h1, hi, h2⟩⟩
      · exact ⟨.slice none 0 0, fun h => absurd h hi⟩
    refine ⟨(List.range m.length).map fun i => (hex i).choose, by simp, fun ad e j u hj => ?_, fun i hi => ⟨(hex i).choose, by simp [hi], ((hex i).choose_spec hi).2.2⟩, (fun h => by cases h), fun u hu => ?_⟩
    · simp only [Option.some.injEq] at e
      subst e
      rw [List.getElem?_map, Option.map_eq_some_iff] at hj
      obtain ⟨i, hi, rfl⟩ := hj
      obtain ⟨hlt, rfl⟩ := List.getElem?_eq_some_iff.1 hi
      have hlt' : j < m.length := by simpa using hlt
      have e2 : (⟨b, off, none⟩ : Addr).add j = ⟨b, off + j, none⟩ := by
        simp only [Addr.add]
        split
        · next h => subst h; rfl
        · rfl
      rw [e2]
      simp only [List.getElem_range]
      exact ((hex j).choose_spec hlt').1
    · obtain ⟨i, hi, rfl⟩ := List.mem_map.1 hu
      obtain ⟨_, _, ⟨o, c, e, _⟩⟩ := (hex i).choose_spec (List.mem_range.1 hi)
      rw [e]
      rfl
theorem rlargeJ (v : Value) (zs : List Int) (w : World) (hv : SliceI w v zs) (hl : zs.length ≤ 1000000) :
    Calls Tryz.prog 7 #[v] w fun e w' => e = .returned (.bool (largeB zs)) ∧ w = w' := (rlarge_any v zs w hv hl).mono fun _ _ h => ⟨h.1, h.2.symm⟩
/-- Rows of another's, in a row of the call's own. -/
theorem matAt_own {w : World} {B n : Nat} {v : Value} {m : List (List Int)} {L : List Value} (h : w.ownsRow B 23 1 v n L) (hn : n = m.length) (hL : ∀ i (h : i < m.length), ∃ av, L[i]? = some av ∧ SliceI w av m[i]) : MatAt w v m := by
  subst hn
  rcases h.2 with ⟨rfl, hn⟩ | ⟨g, cap, cur, rfl, hB, hb, h1, h2, h3, h4⟩
  · refine ⟨none, 0, by rw [hn], fun hne => ?_, fun _ => rfl⟩
    exact absurd (List.eq_nil_of_length_eq_zero hn) hne
  · refine ⟨some ⟨g, 0, none⟩, cap, rfl, fun _ => ⟨g, 0, rfl, (show Blk w g cur _ from hb).lt, fun i hi => ?_⟩, fun h => (by cases h)⟩
    obtain ⟨av, e1, e2⟩ := hL i hi
    refine ⟨av, ?_, e2⟩
    rw [Nat.zero_add, (show Blk w g cur _ from hb).cell, ← Array.getElem?_toList]
    have : (cur.toList.take (m.length * 1))[i]? = L[i]? := by rw [h4]
    rw [List.getElem?_take_of_lt (by omega)] at this
    rw [this, e1]

set_option maxRecDepth 100000 in
set_option maxHeartbeats 1000000 in
theorem cerr_bound (va vb : Value) (dim : Int) (a b : List (List Int)) (w : World) (ha : MatAt w va a) (hb : MatAt w vb b) (hla : a.length ≤ 1000) (hlb : b.length ≤ 1000) (h : dim < 0 ∨ 6 < dim ∨ 24 < a.length + b.length) :
    Calls Tryz.prog 6 #[.int .i64 dim, va, vb] w fun e w' => e = .returned (.int .i64 2) ∧ w = w' := by
  obtain ⟨o, cap, rfl, hc⟩ := ha
  obtain ⟨o', cap', rfl, hc'⟩ := hb
  clear hc hc'
  generalize a.length = n at *
  generalize b.length = m at *
  by_cases h1 : dim < 0
  · have d1 : decide (dim < 0) = true := by simpa using h1
    clear h h1
    go_enter Tryz.func6, Tryz.ntmps6
    go_wp2_with fail
    go_ret
    exact ⟨rfl, rfl⟩
  · have d1 : decide (dim < 0) = false := by simpa using h1
    by_cases h2 : 6 < dim
    · have d2 : decide (6 < dim) = true := by simpa using h2
      clear h h1 h2
      go_enter Tryz.func6, Tryz.ntmps6
      go_wp2_with fail
      go_ret
      exact ⟨rfl, rfl⟩
    · have d2 : decide (6 < dim) = false := by simpa using h2
      have d3 : decide (24 < (n : Int) + (m : Int)) = true := by simp; omega
      clear h h1 h2
      go_enter Tryz.func6, Tryz.ntmps6
      go_wp2_with fail
      go_ret
      exact ⟨rfl, rfl⟩

set_option maxRecDepth 100000 in
set_option maxHeartbeats 2000000 in
theorem cerr_in (va vb : Value) (dim : Int) (a b : List (List Int)) (w : World) (ha : MatAt w va a) (hb : MatAt w vb b) (h : ¬ (dim < 0 ∨ 6 < dim ∨ 24 < a.length + b.length)) (hM : ∀ r ∈ a ++ b, r.length ≤ 1000000) :
    Calls Tryz.prog 6 #[.int .i64 dim, va, vb] w fun e w' => e = .returned (.int .i64 (coneErr dim (a ++ b))) ∧ Below w.heap.size w w' := by
  have HP := Lib.hid (show coneErr dim (a ++ b) = if (a ++ b).any (fun r => (r.length : Int) != dim) then 3 else if (a ++ b).any largeB then 2 else 0 from if_neg (by rw [List.length_append]; omega))
  obtain ⟨o, ca, rfl, qa⟩ := ha
  have ha : MatAt w (.slice o a.length ca) a := ⟨o, ca, rfl, qa⟩
  obtain ⟨o', cb, rfl, qb⟩ := hb
  have hb : MatAt w (.slice o' b.length cb) b := ⟨o', cb, rfl, qb⟩
  obtain ⟨_, L1, hL1, hc1, hr1, hn1, ho1⟩ := ha.cells
  obtain ⟨_, L2, hL2, hc2, hr2, hn2, ho2⟩ := hb.cells
  have HRW : ∀ (w2 : World) (v : Value), Below w.heap.size w w2 → w2.ownsRow w.heap.size 23 1 v (a.length + b.length) (L1 ++ L2) → Hid (MatAt w2 v (a ++ b)) := fun w2 v hbw ho => by
    refine matAt_own ho (by rw [List.length_append]) (fun i hi => ?_)
    rw [List.length_append] at hi
    by_cases h1 : i < a.length
    · obtain ⟨av, e1, e2⟩ := hr1 i h1
      refine ⟨av, by rw [List.getElem?_append_left (by omega)]; exact e1, ?_⟩
      rw [List.getElem_append_left h1]
      exact e2.below hbw (Nat.le_refl _)
    · obtain ⟨av, e1, e2⟩ := hr2 (i - a.length) (by omega)
      refine ⟨av, by rw [List.getElem?_append_right (by omega), hL1]; exact e1, ?_⟩
      rw [List.getElem_append_right (by omega)]
      exact e2.below hbw (Nat.le_refl _)
  have HMW := Lib.hid HRW
  have HM := Lib.hid hM
  obtain ⟨i0, hi, hzz⟩ := Option.map_eq_some_iff.1 infoSl
  simp only [Prod.mk.injEq] at hzz
  obtain ⟨hz0, hz1, hz2⟩ := hzz
  have HI := Lib.hid hi
  have HZ0 := Lib.hid hz0
  have HZ1 := Lib.hid hz1
  have HZ2 := Lib.hid hz2
  obtain ⟨n, hn⟩ : ∃ n, a.length = n := ⟨_, rfl⟩
  obtain ⟨m, hm⟩ : ∃ n, b.length = n := ⟨_, rfl⟩
  rw [hn, hm] at h HMW
  rw [hn] at hL1
  rw [hm] at hL2
  rw [hn, hm]
  have HNN := Lib.hid (show (a ++ b).length = n + m by rw [List.length_append, hn, hm])
  have HL1 := Lib.hid hL1
  have HL2 := Lib.hid hL2
  have HC1 := Lib.hid hc1
  have HC2 := Lib.hid hc2
  have HO1 := Lib.hid ho1
  have HO2 := Lib.hid ho2
  have hz1' : o = none → n = 0 ∧ ca = 0 := fun e => ⟨by rw [← hn, (hn1 e).1]; rfl, (hn1 e).2⟩
  have hz2' : o' = none → m = 0 ∧ cb = 0 := fun e => ⟨by rw [← hm, (hn2 e).1]; rfl, (hn2 e).2⟩
  have d1 : decide (dim < 0) = false := by simp; omega
  have d2 : decide (6 < dim) = false := by simp; omega
  have d3 : decide (24 < (n : Int) + (m : Int)) = false := by simp; omega
  have hn24 : n + m ≤ 24 := by omega
  clear hi hz0 hz1 hz2 hn hm ha hb qa qb hL1 hL2 hc1 hc2 hr1 hr2 hn1 hn2 ho1 ho2 h hM HRW
  go_enter Tryz.func6, Tryz.ntmps6
  go_upto_region 4 with fail
  go_cut [7] (fun v wx => wx.ownsRow w.heap.size 23 1 v n L1 ∧ Below w.heap.size w wx)
  case first =>
    rcases o with _ | ad
    · obtain ⟨rfl, rfl⟩ := hz1' rfl
      obtain rfl : L1 = [] := List.eq_nil_of_length_eq_zero HL1.out
      go_wp2_with fail
      go_meet
      exact ⟨World.ownsRow_nil _ _ _ _, Below.refl _ _⟩
    · go_wp2_with (at_builtin; refine wpList_append_own _ rfl (.tmp 25) (.tmp 26) 22 rfl w.heap.size 23 i0 (.slice none 0 0) 1 24 Tryz.underlying22 HI.out HZ0.out HZ1.out HZ2.out rfl (by decide) (.slice none 0 0) 0 [] rfl (World.ownsRow_nil _ _ _ _) ad n ca L1 rfl (by have := HL1.out; omega) (HC1.out ad rfl) HO1.out (by unfold maxLen; omega) (by omega) (Nat.le_refl _) ?_)
      intro v' w2 hown' hgrow _
      · have hb : Below w.heap.size w w2 := (Below.refl _ _).grown hgrow (Nat.le_refl _) (fun k hk => by simp [Value.ownBlock] at hk)
        have HE := Lib.hid hown'
        clear hown' hgrow
        go_wp2_with fail
        go_meet
        exact ⟨by simpa using HE.out, hb⟩
  case rest =>
    obtain ⟨hown1, hb1⟩ := hcut
    have HW1 := Lib.hid hown1
    have HB1 := Lib.hid hb1
    have hsz1 := hb1.size
    clear hown1 hb1
    go_upto_region 5 with fail
    go_cut [7] (fun v wx => wx.ownsRow w.heap.size 23 1 v (n + m) (L1 ++ L2) ∧ Below w.heap.size w wx)
    case first =>
      rcases o' with _ | ad
      · obtain ⟨rfl, rfl⟩ := hz2' rfl
        obtain rfl : L2 = [] := List.eq_nil_of_length_eq_zero HL2.out
        go_wp2_with (at_builtin; refine wpList_append_own_none rfl (.tmp 28) (.tmp 29) 22 rfl w.heap.size 23 i0 1 Tryz.underlying22 HI.out _ n L1 rfl HW1.out rfl ?_)
        go_wp2_with fail
        go_meet
        exact ⟨by simpa using HW1.out, HB1.out⟩
      · go_wp2_with (at_builtin; refine wpList_append_own _ rfl (.tmp 28) (.tmp 29) 22 rfl w.heap.size 23 i0 (.slice none 0 0) 1 24 Tryz.underlying22 HI.out HZ0.out HZ1.out HZ2.out rfl (by decide) _ n L1 rfl HW1.out ad m cb L2 rfl (by have := HL2.out; omega) (fun j u hj => (HB1.out.cell (p := ad.add j) (cell_ltJ (HC2.out ad rfl j u hj))).trans (HC2.out ad rfl j u hj)) HO2.out (by unfold maxLen; omega) (by omega) hsz1 ?_)
        intro v' w2 hown' hgrow _
        · have hb : Below w.heap.size w w2 := HB1.out.grown hgrow hsz1 (fun k hk => (HW1.out.lt k hk).1)
          have HE := Lib.hid hown'
          clear hown' hgrow
          go_wp2_with fail
          go_meet
          exact ⟨HE.out, hb⟩
    case rest =>
      obtain ⟨hown2, hb2⟩ := hcut
      have HV := HMW.out _ _ hb2 hown2
      have HB2 := Lib.hid hb2
      obtain ⟨o2, c2, rfl⟩ : ∃ o c, u7 = .slice o (n + m) c := by
        rcases hown2.2 with ⟨rfl, e⟩ | ⟨g, c, _, e, _⟩
        · exact ⟨none, 0, by rw [e]⟩
        · exact ⟨_, c, e⟩
      clear hown2 hb2 HW1 HB1 hsz1 HMW
      go_wp2_with fail
      go_loop [8, 9] (fun s i => ∃ k : Nat, k ≤ n + m ∧ i = .int .i64 k ∧ s = .bool (((a ++ b).take k).any largeB) ∧ Hid (((a ++ b).take k).any (fun r => (r.length : Int) != dim) = false)) (fun _ i => n + m - (intOf i).toNat)
      case atStart => exact ⟨0, Nat.zero_le _, rfl, rfl, rfl⟩
      case round =>
        obtain ⟨k, hk, rfl, rfl, hsh⟩ := hrel
        by_cases hlt : k < n + m
        · have hk' : k < (a ++ b).length := by have := HNN.out; omega
          obtain ⟨bb, off, cap', oa, ca', e1, hbl, h2, h3⟩ := HV.out.get hk'
          simp only [Value.slice.injEq] at e1
          obtain ⟨rfl, hnn, rfl⟩ := e1
          clear hnn
          have HA := Lib.hid (rlargeJ _ _ wc h3 (HM.out _ (List.getElem_mem hk')))
          have HS : ((((a ++ b)[k].length : Nat) : Int) != dim) = false → Hid (((a ++ b).take (k + 1)).any (fun r => (r.length : Int) != dim) = false) := fun h => by
            show _ = false
            rw [List.take_succ_eq_append_getElem hk', List.any_append, hsh.out, Bool.false_or]
            simpa using h
          have HX : ((((a ++ b)[k].length : Nat) : Int) != dim) = true → Hid (coneErr dim (a ++ b) = 3) := fun h => by
            show _ = _
            rw [HP.out, if_pos]
            exact List.any_eq_true.2 ⟨_, List.getElem_mem hk', h⟩
          obtain ⟨g0, hg0⟩ : ∃ g, ((a ++ b).take k).any largeB = g := ⟨_, rfl⟩
          obtain ⟨g1, hg1⟩ : ∃ g, largeB (a ++ b)[k] = g := ⟨_, rfl⟩
          have HG : Hid (((a ++ b).take (k + 1)).any largeB = (g0 || g1)) := by
            show _ = _
            rw [List.take_succ_eq_append_getElem hk', List.any_append, hg0]
            simp [hg1]
          rw [hg0]
          rw [hg1] at HA
          clear h3 hg0 hg1 hsh
          obtain ⟨la, hla⟩ : ∃ l, (a ++ b)[k].length = l := ⟨_, rfl⟩
          rw [hla] at h2 HA HS HX
          clear hla
          by_cases hs : ((la : Int) != dim) = true
          · have HX' := HX hs
            clear HX HS HG HA
            go_wp2_with fail
            go_ret
            exact ⟨by rw [HX'.out]; rfl, HB2.out⟩
          · have hs' : ((la : Int) != dim) = false := by simpa using hs
            have HS' := HS hs'
            clear HX hs HS
            go_wp2_with fail
            refine HA.out.mono ?_
            rintro e w1 ⟨rfl, rfl⟩
            clear hs' HA
            cases g0 <;> cases g1
            all_goals
              go_wp2_with fail
              go_round
              case rel => exact ⟨k + 1, by omega, by go_num, by rw [HG.out]; rfl, HS'⟩
              case measure => simp [intOf]; omega
        · obtain rfl : n + m = k := by omega
          have hT := List.take_of_length_le (l := a ++ b) (i := n + m) (by have := HNN.out; omega)
          rw [hT] at hsh ⊢
          rw [hsh.out] at HP
          obtain ⟨g, hg⟩ : ∃ g, (a ++ b).any largeB = g := ⟨_, rfl⟩
          rw [hg] at HP ⊢
          clear hg hT hsh
          cases g
          · have HP' := Lib.hid (show coneErr dim (a ++ b) = 0 by have := HP.out; simpa using this)
            go_wp2_with fail
            go_ret
            exact ⟨by rw [HP'.out]; rfl, HB2.out⟩
          · have HP' := Lib.hid (show coneErr dim (a ++ b) = 2 by have := HP.out; simpa using this)
            go_wp2_with fail
            go_ret
            exact ⟨by rw [HP'.out]; rfl, HB2.out⟩

theorem coneError_any (va vb : Value) (dim : Int) (a b : List (List Int)) (w : World) (ha : MatAt w va a) (hb : MatAt w vb b) (hla : a.length ≤ 1000) (hlb : b.length ≤ 1000) (hM : ∀ r ∈ a ++ b, r.length ≤ 1000000) :
    Calls Tryz.prog 6 #[.int .i64 dim, va, vb] w fun e w' => e = .returned (.int .i64 (coneErr dim (a ++ b))) ∧ Below w.heap.size w w' := by
  by_cases h : dim < 0 ∨ 6 < dim ∨ 24 < a.length + b.length
  · rw [show coneErr dim (a ++ b) = 2 from if_pos (by rw [List.length_append]; exact h)]
    exact (cerr_bound va vb dim a b w ha hb hla hlb h).mono fun e w' ⟨h1, h2⟩ => ⟨h1, by subst h2; exact Below.refl _ _⟩
  · exact cerr_in va vb dim a b w ha hb h hM
end Go.Proofs.YtggoncneinlpgaaGreatDoor
