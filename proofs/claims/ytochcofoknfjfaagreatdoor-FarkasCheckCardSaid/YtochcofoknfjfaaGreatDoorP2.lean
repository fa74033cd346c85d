/- Walks of the reference: PolyError, rowError. -/
import Derived.Test.YtochcofoknfjfaaGreatDoorRP
import Derived.Test.YtochcofoknfjfaaGreatDoorC2
namespace Go.Proofs.YtochcofoknfjfaaGreatDoor
open Go Go.RowKit Nt

/-- A new slice of one number. -/
theorem sliceI_one (w : World) (x : Int) (t : TypeId) : SliceI (w.alloc (.cells #[.int .i64 x] t)) (.slice (some ⟨w.heap.size, 0, none⟩) 1 1) [x] :=
  sliceI_lit (cap := 1) (zs := [x]) (heap_new w _) rfl
theorem rlarge_any' (v : Value) (zs : List Int) (w : World) (hv : SliceI w v zs) (hl : zs.length ≤ 1000000) :
    Calls Tryz.prog 10 #[v] w fun e w' => e = .returned (.bool (largeB zs)) ∧ w = w' := (rlarge_any v zs w hv hl).mono fun _ _ h => ⟨h.1, h.2.symm⟩

def bigR (r : RowZ) : Bool := largeB r.a || largeB [r.b]
def shapeR (dim : Int) (r : RowZ) : Bool := (r.a.length : Int) != dim
/-- The number of a polyhedron's error. -/
def polyErr (dim : Int) (rs : List RowZ) : Int := if dim < 0 ∨ 5 < dim ∨ 24 < rs.length then 2 else if rs.any (shapeR dim) then 3 else if rs.any bigR then 2 else 0

theorem any_snoc {α : Type} (p : α → Bool) (l : List α) (x : α) : (l ++ [x]).any p = (l.any p || p x) := by simp
theorem SliceI.drewN {w : World} {v : Value} {zs : List Int} (h : SliceI w v zs) (q : Nat) : SliceI (w.drewN q) v zs := h.below (B1 := w.heap.size) (below_drewN' (Below.refl _ _) q) (Nat.le_refl _)
/-- What a row of a slice of rows gives. -/
theorem RowsAt.get {w : World} {v : Value} {rs : List RowZ} (h : RowsAt w v rs) {k : Nat} (hk : k < rs.length) :
    ∃ b off cap oa ca, v = .slice (some ⟨b, off, none⟩) rs.length cap ∧ b < w.heap.size ∧ w.cell? ⟨b, off + k * 3, none⟩ = some (.bool rs[k].eq) ∧ w.cell? ⟨b, off + k * 3 + 1, none⟩ = some (.slice oa rs[k].a.length ca) ∧ SliceI w (.slice oa rs[k].a.length ca) rs[k].a ∧ w.cell? ⟨b, off + k * 3 + 2, none⟩ = some (.int .i64 rs[k].b) := by
  obtain ⟨o, cap, rfl, h⟩ := h
  obtain ⟨b, off, rfl, hlt, hc⟩ := h (by intro e; subst e; simp at hk)
  obtain ⟨av, h1, h2, h3, h4⟩ := hc k hk
  have h3' := h3
  obtain ⟨oa, ca, rfl, _⟩ := h3
  exact ⟨b, off, cap, oa, ca, rfl, hlt, h1, h2, h3', h4⟩

set_option maxRecDepth 100000 in
set_option maxHeartbeats 2000000 in
theorem perr_bound (v : Value) (dim : Int) (rs : List RowZ) (w : World) (hv : RowsAt w v rs) (h : dim < 0 ∨ 5 < dim ∨ 24 < rs.length) :
    Calls Tryz.prog 43 #[.agg #[.int .i64 dim, v]] w fun e w' => e = .returned (.int .i64 2) ∧ Below w.heap.size w w' := by
  obtain ⟨o, cap, rfl, hc⟩ := hv
  clear hc
  generalize rs.length = n at *
  by_cases h1 : dim < 0
  · have d1 : decide (dim < 0) = true := by simpa using h1
    clear h h1
    go_enter Tryz.func43, Tryz.ntmps43
    go_wp2_with fail
    go_ret
    exact ⟨rfl, (Below.refl _ _).alloc (Nat.le_refl _) _⟩
  · have d1 : decide (dim < 0) = false := by simpa using h1
    by_cases h2 : 5 < dim
    · have d2 : decide (5 < dim) = true := by simpa using h2
      clear h h1 h2
      go_enter Tryz.func43, Tryz.ntmps43
      go_wp2_with fail
      go_ret
      exact ⟨rfl, (Below.refl _ _).alloc (Nat.le_refl _) _⟩
    · have d2 : decide (5 < dim) = false := by simpa using h2
      have d3 : decide (24 < (n : Int)) = true := by simp; omega
      clear h h1 h2
      go_enter Tryz.func43, Tryz.ntmps43
      go_wp2_with fail
      go_ret
      exact ⟨rfl, (Below.refl _ _).alloc (Nat.le_refl _) _⟩

set_option maxRecDepth 100000 in
set_option maxHeartbeats 2000000 in
theorem perr_in (v : Value) (dim : Int) (rs : List RowZ) (w : World) (hv : RowsAt w v rs) (h : ¬ (dim < 0 ∨ 5 < dim ∨ 24 < rs.length)) (hM : ∀ r ∈ rs, r.a.length ≤ 1000000) :
    Calls Tryz.prog 43 #[.agg #[.int .i64 dim, v]] w fun e w' => e = .returned (.int .i64 (polyErr dim rs)) ∧ Below w.heap.size w w' := by
  have HP := Lib.hid (show polyErr dim rs = if rs.any (shapeR dim) then 3 else if rs.any bigR then 2 else 0 from if_neg h)
  have HV := Lib.hid hv
  have HM := Lib.hid hM
  obtain ⟨o, cap, rfl, hc⟩ := hv
  clear hc hM
  obtain ⟨n, hn⟩ : ∃ n, rs.length = n := ⟨_, rfl⟩
  rw [hn] at h HV ⊢
  have HN := Lib.hid hn
  have d1 : decide (dim < 0) = false := by simp; omega
  have d2 : decide (5 < dim) = false := by simp; omega
  have d3 : decide (24 < (n : Int)) = false := by simp; omega
  have hn24 : n ≤ 24 := by omega
  have hd0 : 0 ≤ dim := by omega
  have hd5 : dim ≤ 5 := by omega
  clear hn h
  go_enter Tryz.func43, Tryz.ntmps43
  go_wp2_with fail
  have hb0 : Below w.heap.size w (w.alloc (.cells #[.int .i64 dim, .slice o n cap] 29)) := (Below.refl _ _).alloc (Nat.le_refl _) _
  have hbx : ∀ wr, Below (w.heap.size + 1) (w.alloc (.cells #[.int .i64 dim, .slice o n cap] 29)) wr → Hid (Below w.heap.size w wr ∧ wr.cell? ⟨w.heap.size, 0, none⟩ = some (.int .i64 dim) ∧ wr.cell? ⟨w.heap.size, 1, none⟩ = some (.slice o n cap)) := fun wr hb =>
    ⟨hb0.trans (hb.mono (by omega)), (hb.cell (p := ⟨w.heap.size, 0, none⟩) (by simp)).trans (by simp), (hb.cell (p := ⟨w.heap.size, 1, none⟩) (by simp)).trans (by simp)⟩
  go_loopw [3, 4] (fun s i wr => ∃ k : Nat, k ≤ n ∧ i = .int .i64 k ∧ s = .bool ((rs.take k).any bigR) ∧ Hid ((rs.take k).any (shapeR dim) = false) ∧ Below (w.heap.size + 1) (w.alloc (.cells #[.int .i64 dim, .slice o n cap] 29)) wr) (fun _ i _ => n - (intOf i).toNat)
  case atStart => exact ⟨0, Nat.zero_le _, rfl, rfl, rfl, Below.refl _ _⟩
  case round =>
    obtain ⟨k, hk, rfl, rfl, hsh, hb⟩ := hrel
    obtain ⟨hbw, hc0, hc1⟩ := (hbx wr hb).out
    by_cases hlt : k < n
    · have hk' : k < rs.length := by have := HN.out; omega
      obtain ⟨b, off, cap', oa, ca, e1, hbl, _, h2, h3, h4⟩ := (HV.out.below hbw (Nat.le_refl _)).get hk'
      simp only [Value.slice.injEq] at e1
      obtain ⟨rfl, hnn, rfl⟩ := e1
      clear hnn
      have hla := HM.out _ (List.getElem_mem hk')
      have HA := Lib.hid (fun q => rlarge_any' _ _ (wr.drewN q) (h3.drewN q) hla)
      have HB := Lib.hid (fun q => rlarge_any' _ [(rs[k]'hk').b] _ (sliceI_one (wr.drewN q) (rs[k]'hk').b 3) (by simp))
      have HS : ((((rs[k]'hk').a.length : Nat) : Int) != dim) = false → Hid ((rs.take (k + 1)).any (shapeR dim) = false) := fun h => by
        show (rs.take (k + 1)).any (shapeR dim) = false
        rw [List.take_succ_eq_append_getElem hk', any_snoc, hsh.out, Bool.false_or]
        exact h
      have HX : ((((rs[k]'hk').a.length : Nat) : Int) != dim) = true → Hid (polyErr dim rs = 3) := fun h => by
        show polyErr dim rs = 3
        rw [HP.out, if_pos]
        exact List.any_eq_true.2 ⟨_, List.getElem_mem hk', h⟩
      obtain ⟨g0, hg0⟩ : ∃ g, (rs.take k).any bigR = g := ⟨_, rfl⟩
      obtain ⟨g1, hg1⟩ : ∃ g, largeB (rs[k]'hk').a = g := ⟨_, rfl⟩
      obtain ⟨g2, hg2⟩ : ∃ g, largeB [(rs[k]'hk').b] = g := ⟨_, rfl⟩
      have HG : Hid ((rs.take (k + 1)).any bigR = (g0 || (g1 || g2))) := by
        show (rs.take (k + 1)).any bigR = (g0 || (g1 || g2))
        rw [List.take_succ_eq_append_getElem hk', any_snoc, hg0, bigR, hg1, hg2]
      rw [hg0]
      rw [hg1] at HA
      rw [hg2] at HB
      clear h3 hg0 hg1 hg2
      generalize (rs[k]'hk').a.length = la at *
      generalize (rs[k]'hk').b = rb at *
      by_cases hs : ((la : Int) != dim) = true
      · have HX' := HX hs
        clear HX HS HG HA HB hb hla
        have HBW := Lib.hid hbw
        clear hbw
        go_wp2_with fail
        go_quiet (fail)
        go_wp2_with fail
        go_ret
        exact ⟨by rw [HX'.out]; rfl, below_drewN' HBW.out _⟩
      · have hs' : ((la : Int) != dim) = false := by simpa using hs
        have HS' := HS hs'
        clear HX hs HS
        go_wp2_with fail
        go_quiet (fail)
        go_wp2_with fail
        refine (HA.out _).mono ?_
        rintro e w1 ⟨rfl, rfl⟩
        go_wp2_with fail
        refine (HB.out _).mono ?_
        rintro e w1 ⟨rfl, rfl⟩
        have hbn : ∀ q o, Below (w.heap.size + 1) (w.alloc (.cells #[.int .i64 dim, .slice (some ⟨b, off, none⟩) n cap] 29)) ((wr.drewN q).alloc o) := fun q o => (below_drewN' hb q).alloc (by have := hb.size; simpa using this) o
        have HBN := Lib.hid hbn
        clear hbn hb hbw hc0 hc1 h2 h4 hs' HA HB
        cases g0 <;> cases g1 <;> cases g2
        all_goals
          go_wp2_with fail
          go_roundw
          case rel => exact ⟨k + 1, by omega, by go_num, by rw [HG.out]; rfl, HS', HBN.out _ _⟩
          case measure => simp [intOf]; omega
    · obtain rfl : k = n := by omega
      have hT := List.take_of_length_le (l := rs) (i := k) (by have := HN.out; omega)
      rw [hT] at hsh ⊢
      rw [hsh.out] at HP
      have HBW := Lib.hid hbw
      obtain ⟨g, hg⟩ : ∃ g, rs.any bigR = g := ⟨_, rfl⟩
      rw [hg] at HP ⊢
      clear hg hT hsh hbw hb hc0
      cases g
      · have HP' := Lib.hid (show polyErr dim rs = 0 by have := HP.out; simpa using this)
        go_wp2_with fail
        go_ret
        exact ⟨by rw [HP'.out]; rfl, HBW.out⟩
      · have HP' := Lib.hid (show polyErr dim rs = 2 by have := HP.out; simpa using this)
        go_wp2_with fail
        go_ret
        exact ⟨by rw [HP'.out]; rfl, HBW.out⟩

theorem perr_any (v : Value) (dim : Int) (rs : List RowZ) (w : World) (hv : RowsAt w v rs) (hM : ∀ r ∈ rs, r.a.length ≤ 1000000) :
    Calls Tryz.prog 43 #[.agg #[.int .i64 dim, v]] w fun e w' => e = .returned (.int .i64 (polyErr dim rs)) ∧ Below w.heap.size w w' := by
  by_cases h : dim < 0 ∨ 5 < dim ∨ 24 < rs.length
  · rw [show polyErr dim rs = 2 from if_pos h]
    exact perr_bound v dim rs w hv h
  · exact perr_in v dim rs w hv h hM

/-- The number of the error of a polyhedron and a row that is to follow. -/
def rowErr (dim : Int) (rs : List RowZ) (r : RowZ) : Int := if polyErr dim rs ≠ 0 then polyErr dim rs else if r.eq = true ∨ (r.a.length : Int) ≠ dim then 3 else 0

set_option maxRecDepth 100000 in
set_option maxHeartbeats 2000000 in
theorem rowErr_any (v ra : Value) (dim : Int) (rs : List RowZ) (r : RowZ) (w : World) (hv : RowsAt w v rs) (hr : SliceI w ra r.a) (hM : ∀ r ∈ rs, r.a.length ≤ 1000000) :
    Calls Tryz.prog 17 #[.agg #[.int .i64 dim, v], .agg #[.bool r.eq, ra, .int .i64 r.b]] w fun e w' => e = .returned (.int .i64 (rowErr dim rs r)) ∧ Below w.heap.size w w' := by
  obtain ⟨oa, ca, rfl, hq⟩ := hr
  clear hq
  obtain ⟨o, cap, e0, hq⟩ := hv
  have hv : RowsAt w v rs := ⟨o, cap, e0, hq⟩
  clear hq
  subst e0
  have hb2 : Below w.heap.size w ((w.alloc (.cells #[.int .i64 dim, .slice o rs.length cap] 29)).alloc (.cells #[.bool r.eq, .slice oa r.a.length ca, .int .i64 r.b] 31)) := ((Below.refl _ _).alloc (Nat.le_refl _) _).alloc (by simp) _
  have HC := Lib.hid (perr_any _ dim rs _ (hv.below hb2 (Nat.le_refl _)) hM)
  have HB2 := Lib.hid hb2
  have HR : Hid (rowErr dim rs r = if polyErr dim rs ≠ 0 then polyErr dim rs else if r.eq = true ∨ (r.a.length : Int) ≠ dim then 3 else 0) := rfl
  clear hb2 hM hv
  obtain ⟨e, he⟩ : ∃ e, rowErr dim rs r = e := ⟨_, rfl⟩
  rw [he] at HR ⊢
  obtain ⟨c, hc⟩ : ∃ c, polyErr dim rs = c := ⟨_, rfl⟩
  rw [hc] at HC HR
  clear hc he
  generalize r.a.length = la at *
  generalize rs.length = n at *
  generalize r.eq = re at *
  generalize r.b = rb at *
  have hfin : ∀ (w1 : World), Below ((w.alloc (.cells #[.int .i64 dim, .slice o n cap] 29)).alloc (.cells #[.bool re, .slice oa la ca, .int .i64 rb] 31)).heap.size ((w.alloc (.cells #[.int .i64 dim, .slice o n cap] 29)).alloc (.cells #[.bool re, .slice oa la ca, .int .i64 rb] 31)) w1 → Hid (Below w.heap.size w w1 ∧ w1.cell? ⟨w.heap.size, 0, none⟩ = some (.int .i64 dim) ∧ w1.cell? ⟨w.heap.size + 1, 0, none⟩ = some (.bool re) ∧ w1.cell? ⟨w.heap.size + 1, 1, none⟩ = some (.slice oa la ca)) := fun w1 hb =>
    ⟨HB2.out.trans (hb.mono (by simp; omega)), (hb.cell (p := ⟨w.heap.size, 0, none⟩) (by simp; omega)).trans (by simp), (hb.cell (p := ⟨w.heap.size + 1, 0, none⟩) (by simp)).trans (by simp), (hb.cell (p := ⟨w.heap.size + 1, 1, none⟩) (by simp)).trans (by simp)⟩
  have HF := Lib.hid hfin
  clear hfin
  by_cases h0 : c = 0
  · subst h0
    have hz : ((0 : Int) == 0) = true := rfl
    cases re
    · by_cases hd : ((la : Int) != dim) = true
      · have HR' := Lib.hid (show e = 3 by
          have h1 := HR.out
          have hd' : (la : Int) ≠ dim := by simpa using hd
          rw [if_neg (by simp), if_pos (.inr hd')] at h1
          exact h1)
        clear HR
        go_enter Tryz.func17, Tryz.ntmps17
        go_wp2_with fail
        refine HC.out.mono ?_
        rintro e1 w1 ⟨rfl, hb⟩
        obtain ⟨hbw, c0, c1, c2⟩ := (HF.out w1 hb).out
        have HBW := Lib.hid hbw
        clear hb hbw
        go_wp2_with fail
        go_ret
        exact ⟨by rw [HR'.out]; rfl, HBW.out⟩
      · have hd' : ((la : Int) != dim) = false := by simpa using hd
        have HR' := Lib.hid (show e = 0 by
          have h1 := HR.out
          have hd' : (la : Int) = dim := by simpa using hd
          rw [if_neg (by simp), if_neg (by simp [hd'])] at h1
          exact h1)
        clear HR hd
        go_enter Tryz.func17, Tryz.ntmps17
        go_wp2_with fail
        refine HC.out.mono ?_
        rintro e1 w1 ⟨rfl, hb⟩
        obtain ⟨hbw, c0, c1, c2⟩ := (HF.out w1 hb).out
        have HBW := Lib.hid hbw
        clear hb hbw
        go_wp2_with fail
        go_ret
        exact ⟨by rw [HR'.out]; rfl, HBW.out⟩
    · have HR' := Lib.hid (show e = 3 by have := HR.out; simpa using this)
      clear HR
      go_enter Tryz.func17, Tryz.ntmps17
      go_wp2_with fail
      refine HC.out.mono ?_
      rintro e1 w1 ⟨rfl, hb⟩
      obtain ⟨hbw, c0, c1, c2⟩ := (HF.out w1 hb).out
      have HBW := Lib.hid hbw
      clear hb hbw
      go_wp2_with fail
      go_ret
      exact ⟨by rw [HR'.out]; rfl, HBW.out⟩
  · have hz : (c == 0) = false := by simpa using h0
    have HR' := Lib.hid (show e = c by have := HR.out; simpa [h0] using this)
    clear HR h0
    go_enter Tryz.func17, Tryz.ntmps17
    go_wp2_with fail
    refine HC.out.mono ?_
    rintro e1 w1 ⟨rfl, hb⟩
    obtain ⟨hbw, _, _, _⟩ := (HF.out w1 hb).out
    have HBW := Lib.hid hbw
    clear hb hbw
    go_wp2_with fail
    go_ret
    exact ⟨by rw [HR'.out]; rfl, HBW.out⟩
end Go.Proofs.YtochcofoknfjfaaGreatDoor
