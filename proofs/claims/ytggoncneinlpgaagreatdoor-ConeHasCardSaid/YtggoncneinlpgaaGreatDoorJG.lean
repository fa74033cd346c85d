/- Words on rows, rows of rows and rays: what stays where one block turns, and which of them share no number. No walk in this file. Walk: slices.SortFunc of two rows, the second one less. Walks: slices.IndexFunc whose first row answers; the closure cut$2. Walk: the closure cut$2: a row made flat. Walk: maker.of: a row with the bits of the rows that it makes 0 (at most one of three). -/
import Derived.Test.YtggoncneinlpgaaGreatDoorJF
import Derived.BigRegion
import Derived.Deep.RegionHeld3
import Derived.Test.YtggoncneinlpgaaGreatDoorH3
import Derived.Test.YtggoncneinlpgaaGreatDoorJA
namespace Go.Proofs.YtggoncneinlpgaaGreatDoor
open Go Go.RowKit Nt

theorem IntAt.chgT {w w' : World} {R : Nat → Prop} {p : Value} {z : Int} {T : List Nat} (h : IntAt w R p z) (hc : Chg T w w') (hT : ∀ k, R k → k ∉ T) : IntAt w' R p z := by
  obtain ⟨b, S, rfl, hf, hS⟩ := h
  exact ⟨b, S, rfl, hf.chg hc fun k hk => hT k (hS k hk), hS⟩
theorem own_chgT {w w' : World} {B0 e size n : Nat} {v : Value} {xs : List Value} {T : List Nat} (h : w.ownsRow B0 e size v n xs) (hc : Chg T w w') (hT : ∀ k ∈ T, k < B0) : w'.ownsRow B0 e size v n xs := by
  rcases h.2 with h' | ⟨g, cap, cur, rfl, hB, hb, hr⟩
  · exact ⟨h.1, .inl h'⟩
  · have hb' : Blk w g cur e := hb
    exact ⟨h.1, .inr ⟨g, cap, cur, rfl, hB, (hc.block g hb'.lt fun hk => by have := hT g hk; omega).trans hb', hr⟩⟩
theorem RowP.chgT {w w' : World} {B0 : Nat} {v : Value} {zs : List Int} {ps : List Value} {T : List Nat} (h : RowP w B0 v zs ps) (hc : Chg T w w') (hT : ∀ k ∈ T, k < B0) : RowP w' B0 v zs ps :=
  ⟨own_chgT h.own hc hT, fun i hi => by
    obtain ⟨p, hp, ha⟩ := h.ints i hi
    exact ⟨p, hp, ha.chgT hc fun k hk hk' => by have := hT k hk'; omega⟩⟩
theorem RowAt.chgT {w w' : World} {B0 : Nat} {v : Value} {zs : List Int} {T : List Nat} (h : RowAt w B0 v zs) (hc : Chg T w w') (hT : ∀ k ∈ T, k < B0) : RowAt w' B0 v zs := by
  obtain ⟨ps, h⟩ := h
  exact ⟨ps, h.chgT hc hT⟩
theorem OwnR.chgT {w w' : World} {base : Nat} {ov : Value} {m : List (List Int)} {xs : List Value} {T : List Nat} (h : OwnR w base ov m xs) (hc : Chg T w w') (hT : ∀ k ∈ T, k < base) : OwnR w' base ov m xs :=
  ⟨own_chgT h.own hc hT, fun j hj => by
    obtain ⟨rv, h1, h2⟩ := h.rows j hj
    exact ⟨rv, h1, h2.chgT hc hT⟩⟩
/-- Rows stay where another row of rows grows. -/
theorem OwnR.grownBy {w w' : World} {base : Nat} {ov : Value} {m : List (List Int)} {xs : List Value} (h : OwnR w base ov m xs) {B0 n e size : Nat} {v : Value} {ys : List Value} (ho : w.ownsRow B0 e size v n ys) (hg : w.grownBy w' v.ownBlock)
    (hne : ov.ownBlock = none ∨ ov.ownBlock ≠ v.ownBlock) (h0 : 49 ≠ e) (h1 : e ≠ 62) (h2 : e ≠ 80) : OwnR w' base ov m xs :=
  ⟨h.own.kept hg hne, fun j hj => by
    obtain ⟨rv, g1, g2⟩ := h.rows j hj
    exact ⟨rv, g1, g2.grown ho hg h0 h1 h2⟩⟩

/-- Rays of the call's own: the row of the rays, and each one's row. -/
structure RaysR (w : World) (base : Nat) (ov : Value) (m : List (List Int)) (xs : List Value) : Prop where
  own : w.ownsRow base 106 2 ov m.length xs
  rows : ∀ i (h : i < m.length), ∃ rv pv, xs[i * 2]? = some rv ∧ xs[i * 2 + 1]? = some (.pointer pv) ∧ RowAt w base rv m[i]
theorem RaysR.nil (w : World) (base : Nat) : RaysR w base (.slice none 0 0) [] [] := ⟨World.ownsRow_nil _ _ _ _, fun i h => by simp at h⟩
theorem RaysR.below {w w' : World} {base : Nat} {ov : Value} {m : List (List Int)} {xs : List Value} (h : RaysR w base ov m xs) (hb : Below w.heap.size w w') : RaysR w' base ov m xs :=
  ⟨ownsRow_below h.own hb (Nat.le_refl _), fun j hj => by
    obtain ⟨rv, pv, h1, h2, h3⟩ := h.rows j hj
    exact ⟨rv, pv, h1, h2, h3.below hb (Nat.le_refl _)⟩⟩
theorem RaysR.chgT {w w' : World} {base : Nat} {ov : Value} {m : List (List Int)} {xs : List Value} {T : List Nat} (h : RaysR w base ov m xs) (hc : Chg T w w') (hT : ∀ k ∈ T, k < base) : RaysR w' base ov m xs :=
  ⟨own_chgT h.own hc hT, fun j hj => by
    obtain ⟨rv, pv, h1, h2, h3⟩ := h.rows j hj
    exact ⟨rv, pv, h1, h2, h3.chgT hc hT⟩⟩
theorem RaysR.grownBy {w w' : World} {base : Nat} {ov : Value} {m : List (List Int)} {xs : List Value} (h : RaysR w base ov m xs) {B0 n e size : Nat} {v : Value} {ys : List Value} (ho : w.ownsRow B0 e size v n ys) (hg : w.grownBy w' v.ownBlock)
    (hne : ov.ownBlock = none ∨ ov.ownBlock ≠ v.ownBlock) (h0 : 49 ≠ e) (h1 : e ≠ 62) (h2 : e ≠ 80) : RaysR w' base ov m xs :=
  ⟨h.own.kept hg hne, fun j hj => by
    obtain ⟨rv, pv, g1, g2, g3⟩ := h.rows j hj
    exact ⟨rv, pv, g1, g2, g3.grown ho hg h0 h1 h2⟩⟩
/-- Behind an append of one ray. -/
theorem RaysR.push {w w1 : World} {base : Nat} {ov v' rv : Value} {pv : Option Addr} {m : List (List Int)} {xs : List Value} {r : List Int} (h : RaysR w base ov m xs) (ha : RowAt w base rv r)
    (hown : w1.ownsRow base 106 2 v' (m.length + 1) (xs ++ [rv, .pointer pv])) (hg : w.grownBy w1 ov.ownBlock) : RaysR w1 base v' (m ++ [r]) (xs ++ [rv, .pointer pv]) := by
  have hl : xs.length = m.length * 2 := h.own.1
  refine ⟨by simpa using hown, fun i hi => ?_⟩
  have hi' : i < m.length + 1 := by simpa using hi
  by_cases e : i < m.length
  · obtain ⟨rv', pv', h1, h2, h3⟩ := h.rows i e
    refine ⟨rv', pv', by rw [List.getElem?_append_left (by omega)]; exact h1, by rw [List.getElem?_append_left (by omega)]; exact h2, ?_⟩
    rw [List.getElem_append_left e]
    exact h3.grown h.own hg (by decide) (by decide) (by decide)
  · have : i = m.length := by omega
    subst this
    refine ⟨rv, pv, by rw [List.getElem?_append_right (by omega), hl]; simp, by rw [List.getElem?_append_right (by omega), hl, show m.length * 2 + 1 - m.length * 2 = 1 by omega]; rfl, ?_⟩
    simp only [List.getElem_concat_length]
    exact ha.grown h.own hg (by decide) (by decide) (by decide)

/-- A row that is older than another one shares no number with it. -/
theorem RowP.apart {w w' : World} {B B' : Nat} {v v' : Value} {xs ys : List Int} {ps qs : List Value} (h : RowP w B v xs ps) (h' : RowP w' B' v' ys qs) (hB : w.heap.size ≤ B') (hl : xs.length = ys.length) :
    ∀ i p, i < xs.length → ps[i]? = some p → qs[i]? = some p → False := fun i p hi e1 e2 => by
  obtain ⟨b, rfl, _, hlt⟩ := row_ptr_lt h hi e1
  obtain ⟨b', e, hle, _⟩ := row_ptr_lt h' (by omega) e2
  simp only [Value.pointer.injEq, Option.some.injEq, Addr.mk.injEq, and_true] at e
  omega
theorem wd_inj {w : World} {v : Value} {ds es S T : List Nat} (h : Wd w v ds S) (h' : Wd w v es T) : ds = es := by
  rcases h with ⟨rfl, rfl, rfl⟩ | ⟨a, cap, cs, rfl, rfl, h3, h4, h5, hb, hd⟩
  · rcases h' with ⟨_, _, rfl⟩ | ⟨a, cap, cs, e, _⟩
    · rfl
    · simp at e
  · rcases h' with ⟨e, _, _⟩ | ⟨a', cap', cs', e, _, g3, g4, g5, gb, gd⟩
    · simp at e
    · simp only [Value.slice.injEq, Option.some.injEq, Addr.mk.injEq, and_true] at e
      obtain ⟨rfl, hl, rfl⟩ := e
      obtain rfl := (hb.type gb).1
      apply List.ext_getElem hl
      intro i h1 h2
      have e1 := hd i h1
      rw [gd i h2] at e1
      simp at e1
      omega
theorem intF_inj {w : World} {b : Nat} {x y : Int} {S T : List Nat} (h : IntF w b x S) (h' : IntF w b y T) : x = y := by
  obtain ⟨v, S', hb, hw, _⟩ := h
  obtain ⟨v', T', hb', hw', _⟩ := h'
  have e := (hb.type hb').1
  simp only [Array.mk.injEq, List.cons.injEq, Value.bool.injEq, and_true] at e
  obtain ⟨e1, rfl⟩ := e
  have e2 := congrArg nv (wd_inj hw hw')
  rw [nv_dg, nv_dg] at e2
  by_cases hx : x < 0 <;> by_cases hy : y < 0 <;> simp [hx, hy] at e1 <;> omega
/-- Rows whose numbers differ share no number. -/
theorem RowP.apartV {w : World} {B B' : Nat} {v v' : Value} {xs ys : List Int} {ps qs : List Value} (h : RowP w B v xs ps) (h' : RowP w B' v' ys qs) (hd : ∀ i (h1 : i < xs.length) (h2 : i < ys.length), xs[i] ≠ ys[i]) (hl : xs.length = ys.length) :
    ∀ i p, i < xs.length → ps[i]? = some p → qs[i]? = some p → False := fun i p hi e1 e2 => by
  obtain ⟨p1, f1, b, S, rfl, hf, _⟩ := h.ints i hi
  obtain ⟨p2, f2, b', T, rfl, hg, _⟩ := h'.ints i (by omega)
  rw [e1] at f1
  rw [e2] at f2
  obtain rfl := Option.some.inj f1
  simp only [Option.some.injEq, Value.pointer.injEq, Addr.mk.injEq, and_true] at f2
  subst f2
  exact hd i hi (by omega) (intF_inj hf hg)
end Go.Proofs.YtggoncneinlpgaaGreatDoor
namespace Go.Proofs.YtggoncneinlpgaaGreatDoor
open Go Go.RowKit Nt

set_option maxRecDepth 100000 in
set_option maxHeartbeats 1000000 in
theorem len64_two (w : World) : Calls Tryz.prog 132 #[.int .u64 2] w fun e w' => e = .returned (.int .i64 2) ∧ w = w' := by
  go_enter Tryz.func132, Tryz.ntmps132
  go_wp2_with fail
  go_ret
  exact ⟨by kernel_rfl, rfl⟩
set_option maxRecDepth 100000 in
set_option maxHeartbeats 1000000 in
theorem len_two (w : World) : Calls Tryz.prog 89 #[.int .u64 2] w fun e w' => e = .returned (.int .i64 2) ∧ w = w' := by
  go_enter Tryz.func89, Tryz.ntmps89
  go_wp2_with fail
  refine (len64_two w).mono ?_
  rintro e w1 ⟨rfl, rfl⟩
  go_wp2_with fail
  go_ret
  exact ⟨rfl, rfl⟩

/-- The two cells of a row of rows have changed places. -/
def Swap (w : World) (g : Nat) (va vb : Value) (n : Nat) (w' : World) : Prop := Chg [g] w w' ∧ ∃ cs, Blk w' g cs 47 ∧ cs.size = n ∧ cs[0]? = some vb ∧ cs[1]? = some va

theorem Swap.drewN {w w' : World} {g n : Nat} {va vb : Value} (h : Swap w g va vb n w') (q : Nat) : Swap w g va vb n (w'.drewN q) := by
  obtain ⟨h1, cs, h2, h3⟩ := h
  exact ⟨h1.drewN q, cs, h2.drewN q, h3⟩
theorem swap_of {w : World} {g n : Nat} {va vb : Value} {cs : Array Value} (hb : Blk w g cs 47) (hn : cs.size = n) (h2 : 2 ≤ n) (q : Nat) :
    Swap w g va vb n (((w.drewN q).setCell ⟨g, 1, none⟩ va).setCell ⟨g, 0, none⟩ vb) := by
  obtain ⟨cs1, b1, s1, v1, o1⟩ := (hb.drewN q).of_set (i := 1) va (by omega)
  obtain ⟨cs2, b2, s2, v2, o2⟩ := b1.of_set (i := 0) vb (by omega)
  exact ⟨(((Chg.refl _ _).drewN q).setCell (.inl (by simp)) _).setCell (.inl (by simp)) _, cs2, b2, by omega, v2, (o2 1 (by omega)).trans v1⟩

set_option maxRecDepth 100000 in
set_option maxHeartbeats 4000000 in
theorem isort_two (g c : Nat) (va vb : Value) (xs ys : List Int) (ps qs : List Value) (B0 B1 : Nat) (w : World) (cs : Array Value) (hblk : Blk w g cs 47) (h0 : cs[0]? = some va) (h1 : cs[1]? = some vb) (_hc2 : 2 ≤ c) (ha : RowP w B0 va xs ps) (hb : RowP w B1 vb ys qs) (hlen : ys.length = xs.length)
    (hne : ∀ i p, i < ys.length → qs[i]? = some p → ps[i]? = some p → False) (hl : ys.length ≤ 1000000) (hd : lexZ ys xs < 0) :
    Calls Tryz.prog 123 #[.slice (some ⟨g, 0, none⟩) 2 c, .int .i64 0, .int .i64 2, .func (.func 56) #[] #[]] w fun e w' => e = .returned (.tuple #[]) ∧ Swap w g va vb cs.size w' := by
  have HS := Lib.hid (fun j => ecmp_any vb va ys xs qs ps B1 B0 (w.drewN j) (hb.below (below_drewN' (Below.refl _ _) j) (Nat.le_refl _)) (ha.below (below_drewN' (Below.refl _ _) j) (Nat.le_refl _)) hlen hne hl)
  obtain ⟨oa, ca, rfl, _, _⟩ := ha.form
  obtain ⟨ob, cb, rfl, _, _⟩ := hb.form
  clear ha hb hne
  rw [hlen] at HS hl h1
  rw [hlen]
  clear hlen
  generalize xs.length = n at *
  obtain ⟨d, hdd⟩ : ∃ d, lexZ ys xs = d := ⟨_, rfl⟩
  rw [hdd] at HS hd
  clear hdd
  have hd' : decide (d < 0) = true := by simpa using hd
  have hsz : 2 ≤ cs.size := (Array.getElem?_eq_some_iff.1 h1).1
  have c0 : w.cell? ⟨g, 0, none⟩ = some _ := (hblk.cell 0).trans h0
  have c1 : w.cell? ⟨g, 1, none⟩ = some _ := (hblk.cell 1).trans h1
  have f0 := hblk.free 0
  have f1 := hblk.free 1
  have HSW := Lib.hid (fun q => swap_of (va := .slice oa n ca) (vb := .slice ob n cb) hblk rfl hsz q)
  obtain ⟨sz, hsz'⟩ : ∃ s, cs.size = s := ⟨_, rfl⟩
  rw [hsz'] at HSW ⊢
  clear hblk h0 h1 hd hsz hsz'
  go_enter Tryz.func123, Tryz.ntmps123
  go_wp2_with fail
  go_loopw [8, 9] (fun i j wr => (i = .int .i64 1 ∧ w = wr) ∨ (i = .int .i64 2 ∧ Hid (Swap w g (.slice oa n ca) (.slice ob n cb) sz wr))) (fun i _ _ => 2 - (intOf i).toNat)
  case atStart => exact .inl ⟨rfl, rfl⟩
  case round =>
    rcases hrel with ⟨rfl, rfl⟩ | ⟨rfl, hsw⟩
    · go_wp2_with fail
      go_loopw [9] (fun j wx => (j = .int .i64 1 ∧ w = wx) ∨ (j = .int .i64 0 ∧ Hid (Swap w g (.slice oa n ca) (.slice ob n cb) sz wx))) (fun j _ => (intOf j).toNat)
      case atStart => exact .inl ⟨rfl, rfl⟩
      case round =>
        rcases hrel with ⟨rfl, rfl⟩ | ⟨rfl, hsw⟩
        · go_wp2_with fail
          go_quiet ((go_at_call 56; refine (HS.out _).mono ?_; rintro e w' ⟨rfl, m, rfl⟩; exact ⟨rfl, _, by rw [World.drewN_drewN]⟩))
          go_wp2_with fail
          go_region
          go_wp2_with fail
          go_roundw
          case rel => exact .inr ⟨rfl, HSW.out _⟩
          case measure => decide
        · go_wp2_with fail
          go_quiet (fail)
          go_wp2_with fail
          go_roundw
          case rel => exact .inr ⟨rfl, hsw.out.drewN _⟩
          case measure => decide
    · go_wp2_with fail
      go_end0
      exact ⟨rfl, hsw.out⟩

set_option maxRecDepth 100000 in
set_option maxHeartbeats 1000000 in
theorem pdq_two (g c : Nat) (va vb : Value) (xs ys : List Int) (ps qs : List Value) (B0 B1 : Nat) (w : World) (cs : Array Value) (hblk : Blk w g cs 47) (h0 : cs[0]? = some va) (h1 : cs[1]? = some vb) (hc2 : 2 ≤ c) (ha : RowP w B0 va xs ps) (hb : RowP w B1 vb ys qs) (hlen : ys.length = xs.length)
    (hne : ∀ i p, i < ys.length → qs[i]? = some p → ps[i]? = some p → False) (hl : ys.length ≤ 1000000) (hd : lexZ ys xs < 0) :
    Calls Tryz.prog 88 #[.slice (some ⟨g, 0, none⟩) 2 c, .int .i64 0, .int .i64 2, .int .i64 2, .func (.func 56) #[] #[]] w fun e w' => e = .returned (.tuple #[]) ∧ Swap w g va vb cs.size w' := by
  have HI := Lib.hid (isort_two g c va vb xs ys ps qs B0 B1 w cs hblk h0 h1 hc2 ha hb hlen hne hl hd)
  clear hblk h0 h1 hc2 ha hb hlen hne hl hd
  go_enter Tryz.func88, Tryz.ntmps88
  go_wp2_with fail
  refine wp_loop_rounds 1 ?_
  rw [rounds_succ]
  go_wp2_with fail
  refine HI.out.mono ?_
  rintro e w1 ⟨rfl, hs⟩
  have HS := Lib.hid hs
  clear hs
  go_wp2_with fail
  refine bodyPost_ret (v := .tuple #[]) (by simp [results, Tryz.results88, go_sem]) rfl ⟨rfl, HS.out⟩
set_option maxRecDepth 100000 in
set_option maxHeartbeats 1000000 in
theorem sort_two (g c : Nat) (va vb : Value) (xs ys : List Int) (ps qs : List Value) (B0 B1 : Nat) (w : World) (cs : Array Value) (hblk : Blk w g cs 47) (h0 : cs[0]? = some va) (h1 : cs[1]? = some vb) (hc2 : 2 ≤ c) (ha : RowP w B0 va xs ps) (hb : RowP w B1 vb ys qs) (hlen : ys.length = xs.length)
    (hne : ∀ i p, i < ys.length → qs[i]? = some p → ps[i]? = some p → False) (hl : ys.length ≤ 1000000) (hd : lexZ ys xs < 0) :
    Calls Tryz.prog 55 #[.slice (some ⟨g, 0, none⟩) 2 c, .func (.func 56) #[] #[]] w fun e w' => e = .returned (.tuple #[]) ∧ Swap w g va vb cs.size w' := by
  have HI := Lib.hid (pdq_two g c va vb xs ys ps qs B0 B1 w cs hblk h0 h1 hc2 ha hb hlen hne hl hd)
  clear hblk h0 h1 hc2 ha hb hlen hne hl hd
  have hw : IntKind.u64.wrap 2 = 2 := by decide
  go_enter Tryz.func55, Tryz.ntmps55
  go_wp2_with fail
  refine (len_two w).mono ?_
  rintro e w1 ⟨rfl, rfl⟩
  go_wp2_with fail
  refine HI.out.mono ?_
  rintro e w1 ⟨rfl, hs⟩
  have HS := Lib.hid hs
  clear hs
  go_wp2_with fail
  go_end0
  exact ⟨rfl, HS.out⟩
end Go.Proofs.YtggoncneinlpgaaGreatDoor
namespace Go.Proofs.YtggoncneinlpgaaGreatDoor
open Go Go.RowKit Nt

set_option maxRecDepth 100000 in
set_option maxHeartbeats 1000000 in
theorem indexR_zero (b bx n c : Nat) (va vl : Value) (xs ys : List Int) (ps qs : List Value) (B0 B1 : Nat) (w : World) (hn : 0 < n) (_hnc : n ≤ 1000) (h0 : w.cell? ⟨b, 0, none⟩ = some vl) (hc : w.cell? ⟨bx, 0, none⟩ = some va) (ha : RowP w B0 va xs ps) (hb : RowP w B1 vl ys qs) (hlen : xs.length = ys.length)
    (hne : ∀ i p, i < xs.length → ps[i]? = some p → qs[i]? = some p → False) (hx : Half xs) (hy : Half ys) (hl : xs.length ≤ 1000000) (hd : dotZ xs ys ≠ 0) :
    Calls Tryz.prog 76 #[.slice (some ⟨b, 0, none⟩) n c, .func (.func 77) #[] #[.pointer (some ⟨bx, 0, none⟩)]] w fun e w' => e = .returned (.int .i64 0) ∧ Below w.heap.size w w' := by
  have HC := Lib.hid (cut1_any bx va vl xs ys ps qs B0 B1 w hc ha hb hlen hne hx hy hl)
  have hd' : (dotZ xs ys != 0) = true := by simpa using hd
  rw [hd'] at HC
  obtain ⟨oa, ca, rfl, _, _⟩ := ha.form
  obtain ⟨ob, cb, rfl, _, _⟩ := hb.form
  clear ha hb hne hx hy hd hd' hc
  rw [← hlen] at HC h0
  clear hlen
  generalize xs.length = l at *
  go_enter Tryz.func76, Tryz.ntmps76
  go_wp2_with fail
  refine wp_loop_rounds 1 ?_
  rw [rounds_succ]
  go_wp2_with fail
  refine HC.out.mono ?_
  rintro e w1 ⟨rfl, hb1⟩
  have HB := Lib.hid hb1
  clear hb1
  go_wp2_with fail
  go_ret
  exact ⟨rfl, HB.out⟩
end Go.Proofs.YtggoncneinlpgaaGreatDoor
namespace Go.Proofs.YtggoncneinlpgaaGreatDoor
open Go Go.RowKit Nt

/-- A number that is new and not 0 in nothing: what Neg is called on. -/
def NegIn (w : World) (bz bx : Nat) (x : Int) (w2 : World) : Prop := Below w.heap.size w w2 ∧ w.heap.size ≤ bz ∧ IntF w2 bz 0 [bz] ∧ ∃ T, IntF w2 bx x T
def NegOut (w : World) (bz : Nat) (x : Int) (w3 : World) : Prop := Below w.heap.size w w3 ∧ w.heap.size ≤ bz ∧ ∃ S, IntF w3 bz (-x) S

theorem negIn_first {w w2 : World} {bx : Nat} {x : Int} {T : List Nat} (hx : IntF w2 bx x T) (_hT : ∀ k, k ∈ T → (w.drew.alloc (.cells #[.bool false, .slice none 0 0] 62)).heap.size ≤ k) (hb : Below (w.drew.alloc (.cells #[.bool false, .slice none 0 0] 62)).heap.size (w.drew.alloc (.cells #[.bool false, .slice none 0 0] 62)) w2) : NegIn w w.heap.size bx x w2 :=
  ⟨((Below.refl w.heap.size w).drew.alloc (Nat.le_refl _) _).trans (hb.mono (by show _ ≤ (w.alloc _).heap.size; simp)), Nat.le_refl _, (intF_new w.drew).below hb (fun k hk => by simp at hk; subst hk; show _ < (w.alloc _).heap.size; simp), T, hx⟩
theorem negIn_last {w w2 : World} {bx : Nat} {x : Int} {T : List Nat} (hx : IntF w2 bx x T) (hb : Below w.heap.size w w2) : NegIn w w2.heap.size bx x (w2.alloc (.cells #[.bool false, .slice none 0 0] 62)) :=
  ⟨hb.alloc hb.size _, hb.size, intF_new w2, T, hx.to fun k hk => Below.heap_alloc _ _ _ (hx.lt k hk)⟩
theorem neg_in {w w2 : World} {bz bx : Nat} {x : Int} (h : NegIn w bz bx x w2) (hx : x.natAbs < 18446744073709551616) :
    Calls Tryz.prog 81 #[.pointer (some ⟨bz, 0, none⟩), .pointer (some ⟨bx, 0, none⟩)] w2 fun e w3 => e = .returned (.pointer (some ⟨bz, 0, none⟩)) ∧ NegOut w bz x w3 := by
  obtain ⟨h1, h2, h3, T, h4⟩ := h
  refine (neg_any bz bx 0 x [bz] T w2 h3 h4 ?_).mono ?_
  · by_cases h0 : x = 0
    · subst h0; rw [Int.natAbs_zero, dg_zero]; simp
    · rw [dg_one (by omega) (by rw [B_eq]; exact hx)]; simp
  · rintro e w3 ⟨S', rfl, hf, hS, hc⟩
    exact ⟨rfl, h1.trans (hc.below h1.size (by simpa using h2)), h2, S', hf⟩

set_option maxRecDepth 100000 in
set_option maxHeartbeats 2000000 in
theorem cut2_any (bd bl ba bD : Nat) (SD : List Nat) (vr va vl : Value) (xr xa xl : List Int) (pr pa pl : List Value) (Br Ba Bl : Nat) (d : Int) (w : World) (hr : RowP w Br vr xr pr) (ha : RowP w Ba va xa pa) (hl : RowP w Bl vl xl pl) (hD : IntF w bD d SD)
    (cd : w.cell? ⟨bd, 0, none⟩ = some (.pointer (some ⟨bD, 0, none⟩))) (cl : w.cell? ⟨bl, 0, none⟩ = some vl) (ca : w.cell? ⟨ba, 0, none⟩ = some va)
    (l1 : xa.length = xr.length) (l2 : xr.length = xl.length) (hne : ∀ i p, i < xa.length → pa[i]? = some p → pr[i]? = some p → False) (hneD : ∀ i p, i < xr.length → pr[i]? = some p → p ≠ .pointer (some ⟨bD, 0, none⟩))
    (hxr : Half xr) (hxa : Half xa) (hxl : Half xl) (hd : d.natAbs ≤ 2147483648) (hs : (dotZ xa xr).natAbs ≤ 2147483648) (hlen : xr.length ≤ 1000000) :
    Calls Tryz.prog 79 #[vr, .pointer (some ⟨bd, 0, none⟩), .pointer (some ⟨bl, 0, none⟩), .pointer (some ⟨ba, 0, none⟩)] w (RowRes w w.heap.size (normZ (mixZ xr d xl (-(dotZ xa xr))))) := by
  have hld := cell_ltJ cd
  have hll := cell_ltJ cl
  have hla := cell_ltJ ca
  simp only at hld hll hla
  have HDOT := Lib.hid (fun w1 (hb : Below w.heap.size w w1) => edot_any va vr xa xr pa pr Ba Br w1 (ha.below hb (Nat.le_refl _)) (hr.below hb (Nat.le_refl _)) l1 hne hxa hxr (by omega))
  have HMIX := Lib.hid (fun w3 bz x (h : NegOut w bz x w3) (hx : x.natAbs ≤ 2147483648) => by
    obtain ⟨h1, h2, S, h3⟩ := h
    exact mix_any vr vl xr xl pr pl Br Bl bD bz d (-x) SD S w3 (hr.below h1 (Nat.le_refl _)) (hl.below h1 (Nat.le_refl _)) (hD.below h1 hD.lt) h3 l2 hneD (fun i p hi hp e => by
      obtain ⟨b, e1, _, hlt⟩ := row_ptr_lt hl hi hp
      rw [e] at e1
      simp only [Value.pointer.injEq, Option.some.injEq, Addr.mk.injEq, and_true] at e1
      omega) hxr hxl hd (by rw [Int.natAbs_neg]; exact hx) (by omega))
  have HK := Lib.hid (fun (w1 : World) (hb : Below w.heap.size w w1) => (⟨(hb.cell (p := ⟨bd, 0, none⟩) hld).trans cd, (hb.cell (p := ⟨bl, 0, none⟩) hll).trans cl, (hb.cell (p := ⟨ba, 0, none⟩) hla).trans ca⟩ : w1.cell? ⟨bd, 0, none⟩ = some (.pointer (some ⟨bD, 0, none⟩)) ∧ w1.cell? ⟨bl, 0, none⟩ = some vl ∧ w1.cell? ⟨ba, 0, none⟩ = some va))
  obtain ⟨oa, ka, rfl, _, _⟩ := ha.form
  obtain ⟨ol, kl, rfl, _, _⟩ := hl.form
  obtain ⟨or, kr, rfl, _, _⟩ := hr.form
  obtain ⟨x, hx⟩ : ∃ x, dotZ xa xr = x := ⟨_, rfl⟩
  rw [hx] at HDOT hs ⊢
  clear hx hr ha hl hD hne hneD hxr hxa hxl
  rw [l1] at HK HDOT ca
  rw [← l2] at HK HMIX cl
  obtain ⟨res, hres⟩ : ∃ r, normZ (mixZ xr d xl (-x)) = r := ⟨_, rfl⟩
  obtain ⟨n, hn⟩ : ∃ n, xr.length = n := ⟨_, rfl⟩
  rw [hn] at HK HDOT HMIX cl ca hlen ⊢
  have HRES := Lib.hid hres
  rw [hres]
  have HX := Lib.hid (show x.natAbs < 18446744073709551616 by omega)
  have HXS := Lib.hid hs
  have HDB := Lib.hid (Below.refl w.heap.size w).drew
  clear hn hres hs l1 l2
  go_enter Tryz.func79, Tryz.ntmps79
  go_wp2_with fail
  go_region_held3 (fun w' => w'.cell? ⟨bd, 0, none⟩ = some (.pointer (some ⟨bD, 0, none⟩)) ∧ w'.cell? ⟨bl, 0, none⟩ = some (.slice ol n kl) ∧ w'.cell? ⟨ba, 0, none⟩ = some (.slice oa n ka)) (first | exact K1 | exact K2 | exact K3 | exact K4 | go_keep) (first
    | (go_simp; go_at_call 19; refine (HDOT.out (w.drew.alloc (.cells #[.bool false, .slice none 0 0] 62)) (HDB.out.alloc (Nat.le_refl _) _)).mono ?_; rintro e1 w2 ⟨bx, T, rfl, hxf, hT, hb1⟩; have HIN := Lib.hid (negIn_first hxf hT hb1); have K1 := HK.out w2 HIN.out.1)
    | (go_simp; go_at_call 19; refine (HDOT.out w.drew HDB.out).mono ?_; rintro e1 w1 ⟨bx, T, rfl, hxf, hT, hb1⟩; have HIN := Lib.hid (negIn_last hxf (HDB.out.trans hb1)); have K2 := HK.out w1 (HDB.out.trans hb1); have K1 := HK.out _ HIN.out.1)
    | (go_simp; go_at_call 81; refine (neg_in HIN.out HX.out).mono ?_; rintro e1 w3 ⟨rfl, hno⟩; have HNO := Lib.hid hno; have K3 := HK.out w3 hno.1)
    | (go_simp; go_at_call 80; refine (HMIX.out w3 _ x HNO.out HXS.out).mono ?_; rintro e1 w4 ⟨v4, rfl, hr4, hb4⟩; have HR4 := Lib.hid hr4; have HB4 := Lib.hid hb4; have K4 := HK.out w4 (HNO.out.1.trans (hb4.mono HNO.out.1.size))))
  all_goals
    go_wp2_with fail
    go_ret
    refine ⟨_, rfl, ?_, HNO.out.1.trans (HB4.out.mono HNO.out.1.size)⟩
    rw [← HRES.out]
    exact HR4.out.mono HNO.out.1.size
end Go.Proofs.YtggoncneinlpgaaGreatDoor
namespace Go.Proofs.YtggoncneinlpgaaGreatDoor
open Go Go.RowKit Nt

/-- In the midst of maker.of. -/
def OfI (w : World) (vr : Value) (D : List (List Int)) (r : List Int) (k : Nat) (wr : World) : Prop :=
  ∃ z S, IntF wr (w.heap.size + 1) z S ∧ (∀ x ∈ S, w.heap.size ≤ x) ∧ (z = 0 ∨ ∃ i, ∃ h : i < D.length, i < k ∧ dotZ D[i] r = 0) ∧ Blk wr w.heap.size #[.slice none 0 0, .pointer none] 106 ∧
    Blk wr (w.heap.size + 1 + 1) #[vr, .pointer (some ⟨w.heap.size + 1, 0, none⟩)] 106 ∧ Below w.heap.size w wr
theorem OfI.start (w : World) (vr : Value) (D : List (List Int)) (r : List Int) :
    OfI w vr D r 0 (((w.alloc (.cells #[.slice none 0 0, .pointer none] 106)).alloc (.cells #[.bool false, .slice none 0 0] 62)).alloc (.cells #[vr, .pointer (some ⟨w.heap.size + 1, 0, none⟩)] 106)) := by
  refine ⟨0, [w.heap.size + 1], ?_, by simp, .inl rfl, ((Blk.new w _ _).alloc _).alloc _, ?_, (((Below.refl _ _).alloc (Nat.le_refl _) _).alloc (by simp) _).alloc (by simp; omega) _⟩
  · have h := intF_new (w.alloc (.cells #[.slice none 0 0, .pointer none] 106))
    rw [World.size_alloc] at h
    exact h.to fun k hk => Below.heap_alloc _ _ _ (by have := h.lt k hk; exact this)
  · have h := Blk.new ((w.alloc (.cells #[.slice none 0 0, .pointer none] 106)).alloc (.cells #[.bool false, .slice none 0 0] 62)) #[vr, .pointer (some ⟨w.heap.size + 1, 0, none⟩)] 106
    rwa [World.size_alloc, World.size_alloc] at h
theorem OfI.step {w wr w2 : World} {vr : Value} {D : List (List Int)} {r : List Int} {k : Nat} (h : OfI w vr D r k wr) (hb : Below wr.heap.size wr w2) : OfI w vr D r (k + 1) w2 := by
  obtain ⟨z, S, h1, h2, h3, h4, h5, h6⟩ := h
  refine ⟨z, S, h1.below hb h1.lt, h2, ?_, h4.below hb h4.lt, h5.below hb h5.lt, h6.trans (hb.mono h6.size)⟩
  rcases h3 with h3 | ⟨i, hi, hik, h3⟩
  · exact .inl h3
  · exact .inr ⟨i, hi, by omega, h3⟩
/-- The one bit. -/
theorem OfI.bit {w wr w2 w3 : World} {vr : Value} {D : List (List Int)} {r : List Int} {k : Nat} {z' : Int} {S S' : List Nat} (h : OfI w vr D r k wr) (hb : Below wr.heap.size wr w2) (hz : IntF w2 (w.heap.size + 1) 0 S) (hS : ∀ x ∈ S, w.heap.size ≤ x) (hf : IntF w3 (w.heap.size + 1) z' S') (hs : ∀ x, x ∈ S' → x ∈ S ∨ w2.heap.size ≤ x) (hc : Chg S w2 w3)
    (hk : k < D.length) (hd : dotZ D[k] r = 0) : OfI w vr D r (k + 1) w3 := by
  obtain ⟨_, _, h1, h2, h3, h4, h5, h6⟩ := h
  have h6' := h6.trans (hb.mono h6.size)
  have h4' := h4.below hb h4.lt
  have h5' := h5.below hb h5.lt
  refine ⟨z', S', hf, fun x hx => ?_, .inr ⟨k, hk, by omega, hd⟩, h4'.chg hc (fun hk => hz.notRow hk (by decide) (by decide) h4'), h5'.chg hc (fun hk => hz.notRow hk (by decide) (by decide) h5'), h6'.trans (hc.below h6'.size hS)⟩
  rcases hs x hx with h | h
  · exact hS x h
  · have := h6'.size; omega

set_option maxRecDepth 100000 in
set_option maxHeartbeats 2000000 in
theorem of_row (bm g cap : Nat) (vr : Value) (r : List Int) (pr : List Value) (Br : Nat) (D : List (List Int)) (w : World) (hm : w.cell? ⟨bm, 2, none⟩ = some (.slice (some ⟨g, 0, none⟩) D.length cap)) (hr : RowP w Br vr r pr)
    (hD : ∀ i (h : i < D.length), ∃ dv ps B, w.cell? ⟨g, i, none⟩ = some dv ∧ RowP w B dv D[i] ps ∧ (∀ j p, j < D[i].length → ps[j]? = some p → pr[j]? = some p → False) ∧ D[i].length = r.length ∧ Half D[i])
    (hone : ∀ i j (hi : i < D.length) (hj : j < D.length), i < j → dotZ D[i] r = 0 → dotZ D[j] r = 0 → False) (hl : D.length ≤ 3) (hrl : r.length ≤ 1000000) (hh : Half r) :
    Calls Tryz.prog 82 #[.pointer (some ⟨bm, 0, none⟩), vr] w fun e w' => e = .returned (.agg #[vr, .pointer (some ⟨w.heap.size + 1, 0, none⟩)]) ∧ Below w.heap.size w w' := by
  have hml := cell_ltJ hm
  simp only at hml
  have hm3 : ∀ o o2 o3, (((w.alloc o).alloc o2).alloc o3).cell? ⟨bm, 2, none⟩ = some (.slice (some ⟨g, 0, none⟩) D.length cap) := fun o o2 o3 =>
    (((((Below.refl w.heap.size w).alloc (Nat.le_refl _) o).alloc (by simp) o2).alloc (by simp; omega) o3).cell (p := ⟨bm, 2, none⟩) hml).trans hm
  have HR := Lib.hid hr
  have HD := Lib.hid hD
  have HONE := Lib.hid hone
  have HH := Lib.hid hh
  obtain ⟨or, kr, e0, _, _⟩ := hr.form
  obtain ⟨nr, hnr⟩ : ∃ n, r.length = n := ⟨_, rfl⟩
  rw [hnr] at e0 hrl
  subst e0
  obtain ⟨n, hn⟩ : ∃ n, D.length = n := ⟨_, rfl⟩
  rw [hn] at hm3 hl
  have HN := Lib.hid hn
  have HNR := Lib.hid hnr
  have HS := Lib.hid (OfI.start w (.slice or nr kr) D r)
  clear hD hone hh hr hn hnr hm
  go_enter Tryz.func82, Tryz.ntmps82
  go_wp2_with fail
  go_loopw [16] (fun i wr => ∃ k : Nat, k ≤ n ∧ i = .int .i64 k ∧ Hid (OfI w (.slice or nr kr) D r k wr)) (fun i _ => n - (intOf i).toNat)
  case atStart => exact ⟨0, Nat.zero_le _, rfl, HS.out⟩
  case round =>
    obtain ⟨k, hk, rfl, hI⟩ := hrel
    by_cases hlt : k < n
    · have hk' : k < D.length := by have := HN.out; omega
      obtain ⟨dv, ps, B, c1, c2, c3, c4, c5⟩ := HD.out k hk'
      obtain ⟨z, S, i1, i2, i3, i4, i5, i6⟩ := hI.out
      have cg : wr.cell? ⟨g, k, none⟩ = some dv := (i6.cell (p := ⟨g, k, none⟩) (cell_ltJ c1)).trans c1
      obtain ⟨od, kd, e0, _, _⟩ := c2.form
      rw [c4, HNR.out] at e0
      subst e0
      have HDOT := Lib.hid (edot_any _ _ D[k] r ps pr B Br wr (c2.below i6 (Nat.le_refl _)) (HR.out.below i6 (Nat.le_refl _)) c4 c3 c5 HH.out (by have := HNR.out; omega))
      have HI2 := Lib.hid i2
      have HZ : dotZ D[k] r = 0 → Hid (IntF wr (w.heap.size + 1) 0 S) := fun h0 => by
        rcases i3 with rfl | ⟨i, hi, hik, h1⟩
        · exact i1
        · exact (HONE.out i k hi hk' hik h1 h0).elim
      have hw5 : w.heap.size + 1 + 1 < wr.heap.size := i5.lt
      obtain ⟨f0, f1, _, _⟩ := i5.two
      have F1 := Lib.hid f1
      obtain ⟨x, hx⟩ : ∃ x, dotZ D[k] r = x := ⟨_, rfl⟩
      rw [hx] at HDOT HZ
      have HX := Lib.hid hx
      clear c1 c2 c3 c4 c5 i1 i2 i3 i4 i5 f0 hx
      by_cases h0 : x = 0
      · subst h0
        have HZ0 := HZ rfl
        clear HZ
        go_wp2_with fail
        refine HDOT.out.mono ?_
        rintro e w1 ⟨bx, T, rfl, hxf, hT, hb1⟩
        have HG := Lib.hid (sign_any bx 0 T w1 hxf)
        rw [show (0 : Int).sign = 0 from rfl] at HG
        have g1 := (hb1.cell (p := ⟨w.heap.size + 1 + 1, 1, none⟩) hw5).trans f1
        have HB1 := Lib.hid hb1
        have HSB := Lib.hid (setBit_zero (w.heap.size + 1) k S w1 (HZ0.out.below hb1 HZ0.out.lt) (by omega))
        clear hxf hT hb1 HDOT f1
        go_wp2_with fail
        refine HG.out.mono ?_
        rintro e w2 ⟨rfl, rfl⟩
        go_wp2_with fail
        refine HSB.out.mono ?_
        rintro e w3 ⟨S', rfl, hf3, hS3, hc3⟩
        have HI3 := Lib.hid (hI.out.bit HB1.out (HZ0.out.below HB1.out HZ0.out.lt) HI2.out hf3 hS3 hc3 hk' HX.out)
        clear hf3 hS3 hc3
        go_wp2_with fail
        go_roundw
        case rel => exact ⟨k + 1, by omega, by go_num, HI3.out⟩
        case measure => simp [intOf]; omega
      · clear HZ
        have hs : (x.sign == 0) = false := by
          rcases Int.lt_trichotomy x 0 with h | h | h
          · rw [Int.sign_eq_neg_one_of_neg h]; rfl
          · exact absurd h h0
          · rw [Int.sign_eq_one_of_pos h]; rfl
        go_wp2_with fail
        refine HDOT.out.mono ?_
        rintro e w1 ⟨bx, T, rfl, hxf, hT, hb1⟩
        have HG := Lib.hid (sign_any bx x T w1 hxf)
        have HB1 := Lib.hid hb1
        obtain ⟨s, hss⟩ : ∃ s, x.sign = s := ⟨_, rfl⟩
        rw [hss] at HG hs
        clear hxf hT hb1 HDOT f1 hss h0
        go_wp2_with fail
        refine HG.out.mono ?_
        rintro e w2 ⟨rfl, rfl⟩
        have HI3 := Lib.hid (hI.out.step HB1.out)
        go_wp2_with fail
        go_roundw
        case rel => exact ⟨k + 1, by omega, by go_num, HI3.out⟩
        case measure => simp [intOf]; omega
    · obtain rfl : k = n := by omega
      obtain ⟨z, S, i1, i2, i3, i4, i5, i6⟩ := hI.out
      obtain ⟨f0, f1, _, _⟩ := i5.two
      have b1 := i4.set 0 (.slice or nr kr)
      have b2 := b1.set 1 (.pointer (some ⟨w.heap.size + 1, 0, none⟩))
      obtain ⟨_, q1, _, q2⟩ := (show Blk (wr.setCell ⟨w.heap.size, 0, none⟩ (.slice or nr kr)) w.heap.size #[.slice or nr kr, .pointer none] 106 from b1).two
      obtain ⟨z0, z1, _, _⟩ := (show Blk ((wr.setCell ⟨w.heap.size, 0, none⟩ (.slice or nr kr)).setCell ⟨w.heap.size, 1, none⟩ (.pointer (some ⟨w.heap.size + 1, 0, none⟩))) w.heap.size #[.slice or nr kr, .pointer (some ⟨w.heap.size + 1, 0, none⟩)] 106 from b2).two
      obtain ⟨p0, p1, p2, p3⟩ := i4.two
      have HBW := Lib.hid (Below.setCell (p := ⟨w.heap.size, 1, none⟩) (Below.setCell (p := ⟨w.heap.size, 0, none⟩) i6 (Nat.le_refl _) (.slice or nr kr)) (Nat.le_refl _) (.pointer (some ⟨w.heap.size + 1, 0, none⟩)))
      clear i1 i2 i3 i4 i5 i6 b1 b2 hI
      go_wp2_with fail
      refine bodyPost_ret (v := .agg #[.slice or nr kr, .pointer (some ⟨w.heap.size + 1, 0, none⟩)]) ?_ rfl ⟨rfl, HBW.out⟩
      simp [results, Tryz.results82, go_sem, z0, z1]
end Go.Proofs.YtggoncneinlpgaaGreatDoor
