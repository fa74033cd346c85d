/- Walk: exact.Cmp of two rows of one length. Walk: slices.Grow of nil by two . Walk: slices.Concat of nil and a list of rows of length two. Walk: the closure cut$1: is a row's product with the captured one not 0? Walk: slices.CompactFunc of two rows that differ. -/
import Derived.Test.YtggoncneinlpgaaGreatDoorK1
import Derived.Test.YtggoncneinlpgaaGreatDoorJE
namespace Go.Proofs.YtggoncneinlpgaaGreatDoor
open Go Go.RowKit Nt

/-- What the comparison of two rows tells. -/
def lexZ : List Int → List Int → Int
  | x :: xs, y :: ys => if cmpInt x y = 0 then lexZ xs ys else cmpInt x y
  | [], [] => 0
  | [], _ => -1
  | _, [] => 1

set_option maxRecDepth 100000 in
set_option maxHeartbeats 2000000 in
theorem cmpFR_any (va vb : Value) (xs ys : List Int) (ps qs : List Value) (B0 B1 : Nat) (w : World) (ha : RowP w B0 va xs ps) (hb : RowP w B1 vb ys qs) (hlen : xs.length = ys.length)
    (hne : ∀ i p, i < xs.length → ps[i]? = some p → qs[i]? = some p → False) (hl : xs.length ≤ 1000000) :
    Calls Tryz.prog 90 #[va, vb, .func (.func 91) #[] #[]] w fun e w' => e = .returned (.int .i64 (lexZ xs ys)) ∧ ∃ m, w' = w.drewN m := by
  have HA := Lib.hid ha
  have HB := Lib.hid hb
  have HNE := Lib.hid hne
  obtain ⟨oa, ca, rfl, _, _⟩ := ha.form
  obtain ⟨ob, cb, rfl, _, _⟩ := hb.form
  obtain ⟨n, hn⟩ : ∃ n, xs.length = n := ⟨_, rfl⟩
  have HN := Lib.hid hn
  have HN2 := Lib.hid (hlen.symm.trans hn)
  rw [← hlen] at HB ⊢
  rw [hn] at hl HA HB ⊢
  obtain ⟨res, hres⟩ : ∃ r, lexZ xs ys = r := ⟨_, rfl⟩
  have HR := Lib.hid hres
  rw [hres]
  clear hn ha hb hne hlen hres
  go_enter Tryz.func90, Tryz.ntmps90
  go_wp2_with fail
  go_loopw [13] (fun i wr => ∃ k q : Nat, k ≤ n ∧ i = .int .i64 k ∧ Hid (lexZ (xs.drop k) (ys.drop k) = res) ∧ wr = w.drewN q) (fun i _ => n - (intOf i).toNat)
  case atStart => exact ⟨0, 0, Nat.zero_le _, rfl, HR.out, rfl⟩
  case round =>
    obtain ⟨k, q, hk, rfl, hx, rfl⟩ := hrel
    by_cases hlt : k < n
    · have hk1 : k < xs.length := by have := HN.out; omega
      have hk2 : k < ys.length := by have := HN2.out; omega
      have hbq : Below w.heap.size w (w.drewN q) := below_drewN' (Below.refl _ _) q
      have ha := HA.out.below hbq (Nat.le_refl _)
      have hb := HB.out.below hbq (Nat.le_refl _)
      obtain ⟨ad, cap', hv, _, hal, hcs⟩ := ha.cell (by omega)
      obtain ⟨p, hp, hc⟩ := hcs k hk1
      obtain ⟨p', hp', bz, Sz, rfl, hz, _⟩ := ha.ints k hk1
      obtain ⟨ad2, cap2, hv2, _, hal2, hcs2⟩ := hb.cell (by omega)
      obtain ⟨p2, hp2, hc2⟩ := hcs2 k hk2
      obtain ⟨p2', hp2', bz2, Sz2, rfl, hz2, _⟩ := hb.ints k hk2
      have hap : bz ≠ bz2 := fun e => by
        subst e
        exact HNE.out k _ hk1 hp' hp2'
      rw [hp] at hp'
      obtain rfl := Option.some.inj hp'
      rw [hp2] at hp2'
      obtain rfl := Option.some.inj hp2'
      simp only [Value.slice.injEq] at hv hv2
      obtain ⟨rfl, g1, rfl⟩ := hv
      obtain ⟨rfl, g2, rfl⟩ := hv2
      clear g1 g2
      have HCM := Lib.hid (icmp_any bz bz2 xs[k] ys[k] Sz Sz2 _ hz hz2 hap)
      have hd1 := List.drop_eq_getElem_cons hk1
      have hd2 := List.drop_eq_getElem_cons hk2
      have HX : Hid ((if cmpInt xs[k] ys[k] = 0 then lexZ (xs.drop (k + 1)) (ys.drop (k + 1)) else cmpInt xs[k] ys[k]) = res) := by
        show _ = res
        rw [← hx.out, hd1, hd2, lexZ]
      obtain ⟨c, hcc⟩ : ∃ c, cmpInt xs[k] ys[k] = c := ⟨_, rfl⟩
      rw [hcc] at HX HCM
      clear ha hb hcs hcs2 hz hz2 hp hp2 hap hx hd1 hd2 hcc hbq
      by_cases h0 : c = 0
      · have hb0 : (c != 0) = false := by simpa using h0
        have HX' : Hid (lexZ (xs.drop (k + 1)) (ys.drop (k + 1)) = res) := by
          have := HX.out
          rw [if_pos h0] at this
          exact this
        clear HX h0
        go_wp2_with fail
        refine HCM.out.mono ?_
        rintro e w1 ⟨rfl, q2, rfl⟩
        go_wp2_with fail
        go_roundw
        case rel => exact ⟨k + 1, q + q2, by omega, by go_num, HX', rfl⟩
        case measure => simp [intOf]; omega
      · have hb0 : (c != 0) = true := by simpa using h0
        have HX' : Hid (c = res) := by
          have := HX.out
          rw [if_neg h0] at this
          exact this
        clear HX h0
        go_wp2_with fail
        refine HCM.out.mono ?_
        rintro e w1 ⟨rfl, q2, rfl⟩
        go_wp2_with fail
        go_ret
        exact ⟨by rw [HX'.out]; rfl, q + q2, rfl⟩
    · obtain rfl : k = n := by omega
      have HX' : Hid (res = 0) := by
        show res = 0
        rw [← hx.out, List.drop_of_length_le (by have := HN.out; omega), List.drop_of_length_le (by have := HN2.out; omega)]
        rfl
      clear hx
      go_wp2_with fail
      go_ret
      exact ⟨by rw [HX'.out]; rfl, q, rfl⟩

set_option maxRecDepth 100000 in
set_option maxHeartbeats 1000000 in
theorem ecmp_any (va vb : Value) (xs ys : List Int) (ps qs : List Value) (B0 B1 : Nat) (w : World) (ha : RowP w B0 va xs ps) (hb : RowP w B1 vb ys qs) (hlen : xs.length = ys.length)
    (hne : ∀ i p, i < xs.length → ps[i]? = some p → qs[i]? = some p → False) (hl : xs.length ≤ 1000000) :
    Calls Tryz.prog 56 #[va, vb] w fun e w' => e = .returned (.int .i64 (lexZ xs ys)) ∧ ∃ m, w' = w.drewN m := by
  have HC := Lib.hid (cmpFR_any va vb xs ys ps qs B0 B1 w ha hb hlen hne hl)
  obtain ⟨oa, ca, rfl, _, _⟩ := ha.form
  obtain ⟨ob, cb, rfl, _, _⟩ := hb.form
  clear ha hb hne
  rw [← hlen] at HC ⊢
  clear hlen
  obtain ⟨c, hc⟩ : ∃ c, lexZ xs ys = c := ⟨_, rfl⟩
  rw [hc] at HC ⊢
  clear hc
  generalize xs.length = n at *
  go_enter Tryz.func56, Tryz.ntmps56
  go_wp2_with fail
  refine HC.out.mono ?_
  rintro e w1 ⟨rfl, q, rfl⟩
  go_wp2_with fail
  go_ret
  exact ⟨rfl, q, rfl⟩

set_option maxRecDepth 100000 in
set_option maxHeartbeats 1000000 in
theorem econe1_any (va vb : Value) (xs ys : List Int) (ps qs : List Value) (B0 B1 : Nat) (w : World) (ha : RowP w B0 va xs ps) (hb : RowP w B1 vb ys qs) (hlen : xs.length = ys.length)
    (hne : ∀ i p, i < xs.length → ps[i]? = some p → qs[i]? = some p → False) (hl : xs.length ≤ 1000000) :
    Calls Tryz.prog 58 #[va, vb] w fun e w' => e = .returned (.bool (decide (lexZ xs ys = 0))) ∧ ∃ m, w' = w.drewN m := by
  have HC := Lib.hid (ecmp_any va vb xs ys ps qs B0 B1 w ha hb hlen hne hl)
  obtain ⟨oa, ca, rfl, _, _⟩ := ha.form
  obtain ⟨ob, cb, rfl, _, _⟩ := hb.form
  clear ha hb hne
  rw [← hlen] at HC ⊢
  clear hlen
  obtain ⟨c, hc⟩ : ∃ c, lexZ xs ys = c := ⟨_, rfl⟩
  rw [hc] at HC ⊢
  clear hc
  generalize xs.length = n at *
  by_cases h : c = 0
  · subst h
    go_enter Tryz.func58, Tryz.ntmps58
    go_wp2_with fail
    refine HC.out.mono ?_
    rintro e w1 ⟨rfl, q, rfl⟩
    go_wp2_with fail
    go_ret
    exact ⟨rfl, q, rfl⟩
  · have h0 : (c == 0) = false := by simpa using h
    have h1 := Lib.hid (show decide (c = 0) = false by simpa using h)
    rw [h1.out]
    clear h
    go_enter Tryz.func58, Tryz.ntmps58
    go_wp2_with fail
    refine HC.out.mono ?_
    rintro e w1 ⟨rfl, q, rfl⟩
    go_wp2_with fail
    go_ret
    exact ⟨rfl, q, rfl⟩
end Go.Proofs.YtggoncneinlpgaaGreatDoor
namespace Go.Proofs.YtggoncneinlpgaaGreatDoor
open Go Go.RowKit Nt
set_option maxRecDepth 100000 in
set_option maxHeartbeats 1000000 in
theorem growR_nil (w : World) :
    Calls Tryz.prog 75 #[.slice none 0 0, .int .i64 2] w fun e w' => ∃ v, e = .returned v ∧ w'.ownsRow w.heap.size 47 1 v 0 [] ∧ Below w.heap.size w w' := by
  go_enter Tryz.func75, Tryz.ntmps75
  go_wp2_with fail
  go_ret
  have h1 : ∀ t, 2 ≤ (Question.appendCap 2 0 47).cut t ∧ (Question.appendCap 2 0 47).cut t ≤ maxLen := fun t => by
    have := Nat.mod_lt t (show 0 < 2 ^ 63 - 2 by omega)
    simp only [Question.cut, maxLen]
    omega
  exact ⟨_, rfl, ⟨rfl, .inr ⟨w.heap.size, _, _, rfl, Nat.le_refl _, heap_new w _, Nat.zero_le _, (h1 _).2, by have := (h1 (w.tape w.drawn (Question.appendCap 2 0 47))).1; simp [Builtin.zeroCells]; omega, by simp⟩⟩, ((Below.refl _ _).alloc (Nat.le_refl _) _).drew⟩
end Go.Proofs.YtggoncneinlpgaaGreatDoor
namespace Go.Proofs.YtggoncneinlpgaaGreatDoor
open Go Go.RowKit Nt
set_option maxRecDepth 100000 in
set_option maxHeartbeats 1000000 in
theorem concatR_two (b : Nat) (u : Value) (B : Nat) (xs : List Value) (w : World) (h0 : w.cell? ⟨b, 0, none⟩ = some (.slice none 0 0)) (h1 : w.cell? ⟨b, 1, none⟩ = some u) (hu : w.ownsRow B 47 1 u 2 xs) (hone : ∀ u ∈ xs, u.oneCell' = true) :
    Calls Tryz.prog 51 #[.slice (some ⟨b, 0, none⟩) 2 2] w fun e w' => ∃ v, e = .returned v ∧ w'.ownsRow w.heap.size 47 1 v 2 xs ∧ Below w.heap.size w w' := by
  obtain ⟨g, c, rfl, hxl, hcs⟩ : ∃ g c, u = .slice (some ⟨g, 0, none⟩) 2 c ∧ xs.length = 2 ∧ ∀ j v, xs[j]? = some v → w.cell? ⟨g, j, none⟩ = some v := by
    have hx := hu.1
    rcases hu.2 with ⟨_, e⟩ | ⟨g, c, cur, e, hB, hb, h1, h2, h3, h4⟩
    · omega
    · refine ⟨g, c, e, by omega, fun j v hj => ?_⟩
      rw [(show Blk w g cur _ from hb).cell, ← Array.getElem?_toList]
      have hj2 : j < xs.length := (List.getElem?_eq_some_iff.1 hj).1
      rw [← h4, List.getElem?_take_of_lt (by omega)] at hj
      exact hj
  have HXL := Lib.hid hxl
  have HCS := Lib.hid hcs
  have HONE := Lib.hid hone
  have HBL := Lib.hid (cell_ltJ h0)
  have H0 := Lib.hid h0
  have H1 := Lib.hid h1
  obtain ⟨i0, hi, hzz⟩ := Option.map_eq_some_iff.1 infoRw
  simp only [Prod.mk.injEq] at hzz
  obtain ⟨hz0, hz1, hz2⟩ := hzz
  have HI := Lib.hid hi
  have HZ0 := Lib.hid hz0
  have HZ1 := Lib.hid hz1
  have HZ2 := Lib.hid hz2
  clear hu hcs hxl hone hi hz0 hz1 hz2
  go_enter Tryz.func51, Tryz.ntmps51
  go_wp2_with fail
  go_loop [3, 11] (fun s i => (i = .int .i64 0 ∧ s = .int .i64 0) ∨ (i = .int .i64 1 ∧ s = .int .i64 0) ∨ (i = .int .i64 2 ∧ s = .int .i64 2)) (fun _ i => 2 - (intOf i).toNat)
  case atStart => exact .inl ⟨rfl, rfl⟩
  case round =>
    rcases hrel with ⟨rfl, rfl⟩ | ⟨rfl, rfl⟩ | ⟨rfl, rfl⟩
    · go_wp2_with fail
      go_round
      case rel => exact .inr (.inl ⟨rfl, rfl⟩)
      case measure => simp [intOf]
    · go_wp2_with fail
      go_round
      case rel => exact .inr (.inr ⟨rfl, rfl⟩)
      case measure => simp [intOf]
    · go_wp2_with fail
      refine (growR_nil w).mono ?_
      rintro e w1 ⟨v, rfl, ho, hb1⟩
      have HO := Lib.hid ho
      have HB1 := Lib.hid hb1
      clear ho hb1
      go_wp2_with fail
      go_loopw [6, 27] (fun s i wr => Below w.heap.size w wr ∧ ((i = .int .i64 0 ∧ Hid (wr.ownsRow w.heap.size 47 1 s 0 [])) ∨ (i = .int .i64 1 ∧ Hid (wr.ownsRow w.heap.size 47 1 s 0 [])) ∨ (i = .int .i64 2 ∧ Hid (wr.ownsRow w.heap.size 47 1 s 2 xs)))) (fun _ i _ => 2 - (intOf i).toNat)
      case atStart => exact ⟨HB1.out, .inl ⟨rfl, HO.out⟩⟩
      case round =>
        obtain ⟨hb, hrel⟩ := hrel
        have k0 : wr.cell? ⟨b, 0, none⟩ = _ := (hb.cell (p := ⟨b, 0, none⟩) HBL.out).trans H0.out
        have k1 : wr.cell? ⟨b, 1, none⟩ = _ := (hb.cell (p := ⟨b, 1, none⟩) HBL.out).trans H1.out
        have HB := Lib.hid hb
        have hsz := hb.size
        clear hb
        rcases hrel with ⟨rfl, ho⟩ | ⟨rfl, ho⟩ | ⟨rfl, ho⟩
        · go_wp2_with (at_builtin; refine wpList_append_own_none rfl (.tmp 31) (.tmp 32) 71 rfl w.heap.size 47 i0 1 Tryz.underlying71 HI.out _ 0 [] rfl ho.out rfl ?_)
          go_wp2_with fail
          go_roundw
          case rel => exact ⟨HB.out, .inr (.inl ⟨rfl, ho⟩)⟩
          case measure => simp [intOf]
        · go_wp2_with (at_builtin; refine wpList_append_own _ rfl (.tmp 31) (.tmp 32) 71 rfl w.heap.size 47 i0 (.slice none 0 0) 1 24 Tryz.underlying71 HI.out HZ0.out HZ1.out HZ2.out rfl (by decide) _ 0 [] rfl ho.out ⟨g, 0, none⟩ 2 c xs rfl (by have := HXL.out; omega) (fun j u hj => by have e := HCS.out j u hj; rw [show (⟨g, 0, none⟩ : Addr).add j = ⟨g, j, none⟩ by simp [Addr.add]; omega]; exact (HB.out.cell (p := ⟨g, j, none⟩) (cell_ltJ e)).trans e) HONE.out (by unfold maxLen; omega) (by omega) hsz ?_)
          intro v' w2 hown' hgrow _
          · have hb2 : Below w.heap.size w w2 := HB.out.grown hgrow hsz (fun k hk => (ho.out.lt k hk).1)
            have HE := Lib.hid hown'
            clear hown' hgrow
            go_wp2_with fail
            go_roundw
            case rel => exact ⟨hb2, .inr (.inr ⟨rfl, Lib.hid (by simpa using HE.out)⟩)⟩
            case measure => simp [intOf]
        · go_wp2_with fail
          go_ret
          exact ⟨_, rfl, ho.out, HB.out⟩
end Go.Proofs.YtggoncneinlpgaaGreatDoor
namespace Go.Proofs.YtggoncneinlpgaaGreatDoor
open Go Go.RowKit Nt
set_option maxRecDepth 100000 in
set_option maxHeartbeats 1000000 in
theorem cut1_any (bx : Nat) (va vl : Value) (xs ys : List Int) (ps qs : List Value) (B0 B1 : Nat) (w : World) (hc : w.cell? ⟨bx, 0, none⟩ = some va) (ha : RowP w B0 va xs ps) (hb : RowP w B1 vl ys qs) (hlen : xs.length = ys.length)
    (hne : ∀ i p, i < xs.length → ps[i]? = some p → qs[i]? = some p → False) (hx : Half xs) (hy : Half ys) (hl : xs.length ≤ 1000000) :
    Calls Tryz.prog 77 #[vl, .pointer (some ⟨bx, 0, none⟩)] w fun e w' => e = .returned (.bool (dotZ xs ys != 0)) ∧ Below w.heap.size w w' := by
  have HD := Lib.hid (edot_any va vl xs ys ps qs _ _ w ha hb hlen hne hx hy hl)
  obtain ⟨oa, ca, rfl, _, _⟩ := ha.form
  obtain ⟨ob, cb, rfl, _, _⟩ := hb.form
  clear ha hb hne hx hy
  obtain ⟨d, hd⟩ : ∃ d, dotZ xs ys = d := ⟨_, rfl⟩
  rw [hd] at HD ⊢
  rw [← hlen] at HD ⊢
  clear hd hlen
  generalize xs.length = n at *
  go_enter Tryz.func77, Tryz.ntmps77
  go_wp2_with fail
  refine HD.out.mono ?_
  rintro e w1 ⟨bd, Sd, rfl, hd, hSd, hb1⟩
  have HG := Lib.hid (sign_any bd d Sd w1 hd)
  have HB := Lib.hid hb1
  clear hd hSd hb1 HD
  go_wp2_with fail
  refine HG.out.mono ?_
  rintro e w2 ⟨rfl, rfl⟩
  have hs : (d.sign != 0) = (d != 0) := by
    rcases Int.lt_trichotomy d 0 with h | h | h
    · rw [Int.sign_eq_neg_one_of_neg h]; simp; omega
    · subst h; rfl
    · rw [Int.sign_eq_one_of_pos h]; simp; omega
  go_wp2_with fail
  go_ret
  exact ⟨by rw [← hs]; rfl, HB.out⟩
end Go.Proofs.YtggoncneinlpgaaGreatDoor
namespace Go.Proofs.YtggoncneinlpgaaGreatDoor
open Go Go.RowKit Nt
set_option maxRecDepth 100000 in
set_option maxHeartbeats 1000000 in
theorem compactR_two (b c : Nat) (va vb : Value) (xs ys : List Int) (ps qs : List Value) (B0 B1 : Nat) (w : World) (h0 : w.cell? ⟨b, 0, none⟩ = some va) (h1 : w.cell? ⟨b, 1, none⟩ = some vb) (_hc2 : 2 ≤ c) (ha : RowP w B0 va xs ps) (hb : RowP w B1 vb ys qs) (hlen : ys.length = xs.length)
    (hne : ∀ i p, i < ys.length → qs[i]? = some p → ps[i]? = some p → False) (hl : ys.length ≤ 1000000) (hd : lexZ ys xs ≠ 0) :
    Calls Tryz.prog 57 #[.slice (some ⟨b, 0, none⟩) 2 c, .func (.func 58) #[] #[]] w fun e w' => e = .returned (.slice (some ⟨b, 0, none⟩) 2 c) ∧ ∃ q, w' = w.drewN q := by
  have HS := Lib.hid (fun j => econe1_any vb va ys xs qs ps B1 B0 (w.drewN j) (hb.below (below_drewN' (Below.refl _ _) j) (Nat.le_refl _)) (ha.below (below_drewN' (Below.refl _ _) j) (Nat.le_refl _)) hlen hne hl)
  rw [decide_eq_false hd] at HS
  obtain ⟨oa, ca, rfl, _, _⟩ := ha.form
  obtain ⟨ob, cb, rfl, _, _⟩ := hb.form
  clear ha hb hne hd
  rw [hlen] at HS hl h1
  clear hlen
  generalize xs.length = n at *
  go_enter Tryz.func57, Tryz.ntmps57
  go_wp2_with fail
  go_loopw [5] (fun i wr => (i = .int .i64 1 ∧ wr = w) ∨ (i = .int .i64 2 ∧ ∃ q, wr = w.drewN q)) (fun i _ => 2 - (intOf i).toNat)
  case atStart => exact .inl ⟨rfl, rfl⟩
  case round =>
    rcases hrel with ⟨rfl, rfl⟩ | ⟨rfl, q, rfl⟩
    · go_wp2_with fail
      go_quiet ((go_at_call 58; refine (HS.out _).mono ?_; rintro e w' ⟨rfl, m, rfl⟩; exact ⟨rfl, _, by rw [World.drewN_drewN]⟩))
      go_wp2_with fail
      go_roundw
      case rel => exact .inr ⟨rfl, _, rfl⟩
      case measure => simp [intOf]
    · go_wp2_with fail
      go_ret
      exact ⟨rfl, q, rfl⟩
end Go.Proofs.YtggoncneinlpgaaGreatDoor
