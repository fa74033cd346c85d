/- Walk: exact.All. -/
import Derived.Test.YtggoncneinlpgaaGreatDoorH4
namespace Go.Proofs.YtggoncneinlpgaaGreatDoor
open Go Go.RowKit Nt

theorem RowAt.grown {w w' : World} {B : Nat} {v : Value} {zs : List Int} (h : RowAt w B v zs) {B0 e size n : Nat} {ov : Value} {xs : List Value} (ho : w.ownsRow B0 e size ov n xs) (hg : w.grownBy w' ov.ownBlock) (h0 : 49 ≠ e)
    (h1 : e ≠ 62) (h2 : e ≠ 80) : RowAt w' B v zs := by
  obtain ⟨ps, h⟩ := h
  refine ⟨ps, h.own.kept hg (own_ne h.own ho h0), fun i hi => ?_⟩
  obtain ⟨p, hp, ha⟩ := h.ints i hi
  exact ⟨p, hp, ha.grown ho hg h1 h2⟩
/-- Rows of the call's own: the row of the rows, and each row. -/
structure OwnR (w : World) (base : Nat) (ov : Value) (m : List (List Int)) (xs : List Value) : Prop where
  own : w.ownsRow base 47 1 ov m.length xs
  rows : ∀ i (h : i < m.length), ∃ rv, xs[i]? = some rv ∧ RowAt w base rv m[i]
theorem OwnR.nil (w : World) (base : Nat) : OwnR w base (.slice none 0 0) [] [] := ⟨World.ownsRow_nil _ _ _ _, fun i h => by simp at h⟩
theorem OwnR.below {w w' : World} {base : Nat} {ov : Value} {m : List (List Int)} {xs : List Value} (h : OwnR w base ov m xs) (hb : Below w.heap.size w w') : OwnR w' base ov m xs :=
  ⟨ownsRow_below h.own hb (Nat.le_refl _), fun j hj => by
    obtain ⟨rv, h1, h2⟩ := h.rows j hj
    exact ⟨rv, h1, h2.below hb (Nat.le_refl _)⟩⟩
/-- Behind an append of one row. -/
theorem OwnR.push {w w1 : World} {base : Nat} {ov v' rv : Value} {m : List (List Int)} {xs : List Value} {r : List Int} (h : OwnR w base ov m xs) (ha : RowAt w base rv r)
    (hown : w1.ownsRow base 47 1 v' (m.length + 1) (xs ++ [rv])) (hg : w.grownBy w1 ov.ownBlock) : OwnR w1 base v' (m ++ [r]) (xs ++ [rv]) := by
  have hl : xs.length = m.length := by have := h.own.1; omega
  refine ⟨by simpa using hown, fun i hi => ?_⟩
  have hi' : i < m.length + 1 := by simpa using hi
  by_cases e : i < m.length
  · obtain ⟨rv', h1, h2⟩ := h.rows i e
    refine ⟨rv', by rw [List.getElem?_append_left (by omega)]; exact h1, ?_⟩
    rw [List.getElem_append_left e]
    exact h2.grown h.own hg (by decide) (by decide) (by decide)
  · have : i = m.length := by omega
    subst this
    refine ⟨rv, by rw [List.getElem?_append_right (by omega), hl]; simp, ?_⟩
    simp only [List.getElem_concat_length]
    exact ha.grown h.own hg (by decide) (by decide) (by decide)
theorem OwnR.rowsR {w : World} {base : Nat} {ov : Value} {m : List (List Int)} {xs : List Value} (h : OwnR w base ov m xs) : RowsR w base ov m := by
  rcases h.own.2 with ⟨rfl, hn⟩ | ⟨g, cap, cur, rfl, hB, hb, h1, h2, h3, h4⟩
  · refine ⟨none, 0, by rw [hn], fun hne => ?_⟩
    exact absurd (List.eq_nil_of_length_eq_zero hn) hne
  · refine ⟨some ⟨g, 0, none⟩, cap, rfl, fun _ => ⟨g, 0, rfl, (show Blk w g cur _ from hb).lt, fun i hi => ?_⟩⟩
    obtain ⟨rv, e1, e2⟩ := h.rows i hi
    refine ⟨rv, ?_, e2⟩
    rw [Nat.zero_add, (show Blk w g cur _ from hb).cell, ← Array.getElem?_toList]
    have : (cur.toList.take (m.length * 1))[i]? = xs[i]? := by rw [h4]
    rw [List.getElem?_take_of_lt (by omega)] at this
    rw [this, e1]

theorem infoRw : (Tryz.prog.info? 47).map (fun i => (i.zero, i.size, i.bytes)) = some (some (.slice none 0 0), 1, 24) := by kernel_rfl

set_option maxRecDepth 100000 in
set_option maxHeartbeats 1000000 in
theorem all_any (v : Value) (m : List (List Int)) (w : World) (hv : MatAt w v m) (hl : m.length ≤ 1000) (hM : ∀ r ∈ m, r.length ≤ 1000000) (h64 : ∀ r ∈ m, I64 r) :
    Calls Tryz.prog 38 #[v] w fun e w' => ∃ u xs, e = .returned u ∧ OwnR w' w.heap.size u m xs ∧ Below w.heap.size w w' := by
  have HV := Lib.hid hv
  have HM := Lib.hid hM
  have H64 := Lib.hid h64
  obtain ⟨i0, hi, hzz⟩ := Option.map_eq_some_iff.1 infoRw
  simp only [Prod.mk.injEq] at hzz
  obtain ⟨hz0, hz1, hz2⟩ := hzz
  have HI := Lib.hid hi
  have HZ0 := Lib.hid hz0
  have HZ1 := Lib.hid hz1
  have HZ2 := Lib.hid hz2
  clear hi hz0 hz1 hz2
  obtain ⟨o, cap, rfl, hc⟩ := hv
  clear hc hM h64
  obtain ⟨n, hn⟩ : ∃ n, m.length = n := ⟨_, rfl⟩
  rw [hn] at HV hl ⊢
  have HN := Lib.hid hn
  clear hn
  go_enter Tryz.func38, Tryz.ntmps38
  go_wp2_with fail
  go_loopw [3, 8] (fun ov i wr => ∃ (k : Nat) (xs : List Value), k ≤ n ∧ i = .int .i64 k ∧ OwnR wr w.heap.size ov (m.take k) xs ∧ Below w.heap.size w wr) (fun _ i _ => n - (intOf i).toNat)
  case atStart => exact ⟨0, [], Nat.zero_le _, rfl, OwnR.nil _ _, Below.refl _ _⟩
  case round =>
    obtain ⟨k, xs, hk, rfl, hown, hbw⟩ := hrel
    by_cases hlt : k < n
    · have hk' : k < m.length := by have := HN.out; omega
      obtain ⟨b, off, cap', oa, ca, e1, hbl, h2, h3⟩ := (HV.out.below hbw (Nat.le_refl _)).get hk'
      simp only [Value.slice.injEq] at e1
      obtain ⟨rfl, hnn, rfl⟩ := e1
      clear hnn
      have HT := Lib.hid (List.take_succ_eq_append_getElem hk')
      have HLT := Lib.hid (show (m.take k).length = k by rw [List.length_take]; omega)
      have HC := Lib.hid (of_any _ m[k] wr h3 (H64.out _ (List.getElem_mem hk')) (HM.out _ (List.getElem_mem hk')))
      obtain ⟨r, hr⟩ : ∃ r, m[k]'hk' = r := ⟨_, rfl⟩
      rw [hr] at h2 HC HT
      have HOWN := Lib.hid hown
      have HBW := Lib.hid hbw
      clear hr h3 hown hbw
      go_wp2_with fail
      refine HC.out.mono ?_
      rintro e w1 ⟨u, rfl, hu, hb1⟩
      obtain ⟨ou, cu, rfl⟩ : ∃ o c, u = .slice o r.length c := by
        obtain ⟨ps, hp⟩ := hu
        obtain ⟨o, c, e, _⟩ := hp.form
        exact ⟨o, c, e⟩
      have HU := Lib.hid hu
      have HB1 := Lib.hid hb1
      have hownk := (HOWN.out.below hb1).own
      rw [HLT.out] at hownk
      have hsz := HBW.out.size
      have hsz1 := hb1.size
      clear hu hb1
      go_wp2_with (at_builtin; refine wpList_append_own _ rfl (.tmp 12) (.tmp 15) 71 rfl w.heap.size 47 i0 (.slice none 0 0) 1 24 Tryz.underlying71 HI.out HZ0.out HZ1.out HZ2.out rfl (by decide) _ k xs rfl (hownk.alloc _) ⟨w1.heap.size, 0, none⟩ 1 1 [.slice ou r.length cu] rfl rfl ?c1 ?c2 ?c3 ?c4 ?c5 ?_)
      case c1 =>
        intro j u hj
        match j, hj with
        | 0, hj => simp at hj; subst hj; simp [Addr.add]
      case c2 => intro u' hu'; simp at hu'; subst hu'; rfl
      case c3 => unfold maxLen; omega
      case c4 => omega
      case c5 => simp; omega
      · intro v' w2 hown' hgrow _
        have hb1a : Below w1.heap.size w1 (w1.alloc (.cells #[.slice ou r.length cu] 47)) := (Below.refl _ _).alloc (Nat.le_refl _) _
        have hO := ((HOWN.out.below HB1.out).below hb1a).push (r := r) ((HU.out.mono hsz).below hb1a (Nat.le_refl _)) (by rw [HLT.out]; exact hown') hgrow
        rw [← HT.out] at hO
        have hbw2 : Below w.heap.size w w2 := ((HBW.out.trans (HB1.out.mono hsz)).alloc (by omega) _).grown hgrow (by simp; omega) (fun k hk => (hownk.lt k hk).1)
        have HO := Lib.hid hO
        clear hO hown' hgrow hownk hb1a
        go_wp2_with fail
        go_roundw
        case rel => exact ⟨k + 1, _, by omega, by go_num, HO.out, hbw2⟩
        case measure => simp [intOf]; omega
    · obtain rfl : k = n := by omega
      have HR := Lib.hid hown
      rw [List.take_of_length_le (by have := HN.out; omega)] at HR
      clear hown
      go_wp2_with fail
      go_ret
      exact ⟨_, _, rfl, HR.out, hbw⟩
end Go.Proofs.YtggoncneinlpgaaGreatDoor
