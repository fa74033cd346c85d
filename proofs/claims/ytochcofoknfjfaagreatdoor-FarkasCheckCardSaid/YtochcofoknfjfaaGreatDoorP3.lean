/- Walks: Low; poly.Valid. -/
import Derived.Test.YtochcofoknfjfaaGreatDoorP2
import Derived.Test.YtochcofoknfjfaaGreatDoorC3
namespace Go.Proofs.YtochcofoknfjfaaGreatDoor
open Go Go.RowKit Nt

def wildR (r : RowZ) : Bool := wildB r.a || wildB [r.b]
def lowB (dim : Int) (rs : List RowZ) (m : Int) : Bool := !rs.any wildR && decide (dim ≤ 3) && decide ((rs.length : Int) ≤ m)

set_option maxRecDepth 100000 in
set_option maxHeartbeats 2000000 in
theorem low_any (v : Value) (dim m : Int) (rs : List RowZ) (w : World) (hv : RowsAt w v rs) (hl : rs.length ≤ 1000) (hM : ∀ r ∈ rs, r.a.length ≤ 1000000) :
    Calls Tryz.prog 21 #[.agg #[.int .i64 dim, v], .int .i64 m] w fun e w' => e = .returned (.bool (lowB dim rs m)) ∧ Below w.heap.size w w' := by
  have HV := Lib.hid hv
  have HM := Lib.hid hM
  obtain ⟨o, cap, rfl, hc⟩ := hv
  clear hc hM
  obtain ⟨n, hn⟩ : ∃ n, rs.length = n := ⟨_, rfl⟩
  have HR : Hid (lowB dim rs m = (!rs.any wildR && decide (dim ≤ 3) && decide ((n : Int) ≤ m))) := by
    show lowB dim rs m = _
    rw [← hn]; rfl
  rw [hn] at HV hl ⊢
  have HN := Lib.hid hn
  obtain ⟨res, hres⟩ : ∃ r, lowB dim rs m = r := ⟨_, rfl⟩
  rw [hres] at HR ⊢
  clear hn hres
  go_enter Tryz.func21, Tryz.ntmps21
  go_wp2_with fail
  have hb0 : Below w.heap.size w (w.alloc (.cells #[.int .i64 dim, .slice o n cap] 29)) := (Below.refl _ _).alloc (Nat.le_refl _) _
  have hbx : ∀ wr, Below (w.heap.size + 1) (w.alloc (.cells #[.int .i64 dim, .slice o n cap] 29)) wr → Hid (Below w.heap.size w wr ∧ wr.cell? ⟨w.heap.size, 0, none⟩ = some (.int .i64 dim) ∧ wr.cell? ⟨w.heap.size, 1, none⟩ = some (.slice o n cap)) := fun wr hb =>
    ⟨hb0.trans (hb.mono (by omega)), (hb.cell (p := ⟨w.heap.size, 0, none⟩) (by simp)).trans (by simp), (hb.cell (p := ⟨w.heap.size, 1, none⟩) (by simp)).trans (by simp)⟩
  go_loopw [5] (fun i wr => ∃ k : Nat, k ≤ n ∧ i = .int .i64 k ∧ Hid ((rs.take k).any wildR = false) ∧ Below (w.heap.size + 1) (w.alloc (.cells #[.int .i64 dim, .slice o n cap] 29)) wr) (fun i _ => n - (intOf i).toNat)
  case atStart => exact ⟨0, Nat.zero_le _, rfl, rfl, Below.refl _ _⟩
  case round =>
    obtain ⟨k, hk, rfl, hsh, hb⟩ := hrel
    obtain ⟨hbw, hc0, hc1⟩ := (hbx wr hb).out
    by_cases hlt : k < n
    · have hk' : k < rs.length := by have := HN.out; omega
      obtain ⟨b, off, cap', oa, ca, e1, hbl, _, h2, h3, h4⟩ := (HV.out.below hbw (Nat.le_refl _)).get hk'
      simp only [Value.slice.injEq] at e1
      obtain ⟨rfl, hnn, rfl⟩ := e1
      clear hnn
      have hla := HM.out _ (List.getElem_mem hk')
      have HA := Lib.hid (rtame_any _ _ wr h3 hla)
      have HB := Lib.hid (rtame_any _ [(rs[k]'hk').b] _ (sliceI_one wr (rs[k]'hk').b 3) (by simp))
      have HS : wildR (rs[k]'hk') = false → Hid ((rs.take (k + 1)).any wildR = false) := fun h => by
        show (rs.take (k + 1)).any wildR = false
        rw [List.take_succ_eq_append_getElem hk', any_snoc, hsh.out, Bool.false_or]
        exact h
      have HX : wildR (rs[k]'hk') = true → Hid (res = false) := fun h => by
        show res = false
        rw [HR.out, show rs.any wildR = true from List.any_eq_true.2 ⟨_, List.getElem_mem hk', h⟩]
        rfl
      obtain ⟨g1, hg1⟩ : ∃ g, wildB (rs[k]'hk').a = g := ⟨_, rfl⟩
      obtain ⟨g2, hg2⟩ : ∃ g, wildB [(rs[k]'hk').b] = g := ⟨_, rfl⟩
      have hgg : wildR (rs[k]'hk') = (g1 || g2) := by rw [wildR, hg1, hg2]
      rw [hgg] at HS HX
      rw [hg1] at HA
      rw [hg2] at HB
      clear h3 hg1 hg2 hgg
      generalize (rs[k]'hk').a.length = la at *
      generalize (rs[k]'hk').b = rb at *
      have HBN := Lib.hid (fun o => hb.alloc (by have := hb.size; simpa using this) o)
      have HBW := Lib.hid hbw
      cases g1 <;> cases g2
      · have HS' := HS rfl
        clear HS HX hb hbw
        go_wp2_with fail
        refine HA.out.mono ?_
        rintro e w1 ⟨rfl, rfl⟩
        go_wp2_with fail
        refine HB.out.mono ?_
        rintro e w1 ⟨rfl, rfl⟩
        go_wp2_with fail
        go_roundw
        case rel => exact ⟨k + 1, by omega, by go_num, HS', HBN.out _⟩
        case measure => simp [intOf]; omega
      all_goals
        have HX' := HX rfl
        clear HS HX hb hbw
        go_wp2_with fail
        refine HA.out.mono ?_
        rintro e w1 ⟨rfl, rfl⟩
        go_wp2_with fail
        refine HB.out.mono ?_
        rintro e w1 ⟨rfl, rfl⟩
        go_wp2_with fail
        go_ret
        exact ⟨by rw [HX'.out]; rfl, HBW.out.alloc HBW.out.size _⟩
    · obtain rfl : k = n := by omega
      have hT := List.take_of_length_le (l := rs) (i := k) (by have := HN.out; omega)
      rw [hT] at hsh
      rw [hsh.out] at HR
      have HBW := Lib.hid hbw
      clear hT hsh hbw hb
      by_cases hd : dim ≤ 3
      · have hd' : decide (dim ≤ 3) = true := by simpa using hd
        rw [hd'] at HR
        have HR' := Lib.hid (show res = decide ((k : Int) ≤ m) by have := HR.out; simpa using this)
        clear HR hd
        go_wp2_with fail
        go_ret
        exact ⟨by rw [HR'.out]; rfl, HBW.out⟩
      · have hd' : decide (dim ≤ 3) = false := by simpa using hd
        rw [hd'] at HR
        have HR' := Lib.hid (show res = false by have := HR.out; simpa using this)
        clear HR hd
        go_wp2_with fail
        go_ret
        exact ⟨by rw [HR'.out]; rfl, HBW.out⟩

/-- The error of a number: nil, or a sentinel. -/
def errV (a : Nat → Addr) (c : Int) : Value := if c = 0 then .nilIface else sentV a (c.toNat - 1)

set_option maxRecDepth 100000 in
set_option maxHeartbeats 2000000 in
theorem valid_bound (v : Value) (dim : Int) (rs : List RowZ) (a : Nat → Addr) (w : World) (he : ErrW w a) (hv : RowsAt w v rs) (h : dim < 0 ∨ 5 < dim ∨ 24 < rs.length) :
    Calls Tryz.prog 73 #[.agg #[.int .i64 dim, v]] w fun e w' => e = .returned (sentV a 1) ∧ Below w.heap.size w w' := by
  obtain ⟨o, cap, rfl, hc⟩ := hv
  clear hc
  generalize rs.length = n at *
  have hb0 : Below w.heap.size w (w.alloc (.cells #[.int .i64 dim, .slice o n cap] 29)) := (Below.refl _ _).alloc (Nat.le_refl _) _
  have hg : (w.alloc (.cells #[.int .i64 dim, .slice o n cap] 29)).cell? ⟨1, 0, none⟩ = some (.iface 320 (.pointer (some (a 1)))) := (he.below hb0 (Nat.le_refl _)).var 1 (by decide)
  have HB := Lib.hid hb0
  clear hb0 he
  by_cases h1 : dim < 0
  · have d1 : decide (dim < 0) = true := by simpa using h1
    clear h h1
    go_enter Tryz.func73, Tryz.ntmps73
    go_wp2_with fail
    go_ret
    exact ⟨rfl, HB.out⟩
  · have d1 : decide (dim < 0) = false := by simpa using h1
    by_cases h2 : 5 < dim
    · have d2 : decide (5 < dim) = true := by simpa using h2
      clear h h1 h2
      go_enter Tryz.func73, Tryz.ntmps73
      go_wp2_with fail
      go_ret
      exact ⟨rfl, HB.out⟩
    · have d2 : decide (5 < dim) = false := by simpa using h2
      have d3 : decide (24 < (n : Int)) = true := by simp; omega
      clear h h1 h2
      go_enter Tryz.func73, Tryz.ntmps73
      go_wp2_with fail
      go_ret
      exact ⟨rfl, HB.out⟩

set_option maxRecDepth 100000 in
set_option maxHeartbeats 2000000 in
theorem valid_in (v : Value) (dim : Int) (rs : List RowZ) (a : Nat → Addr) (w : World) (he : ErrW w a) (hv : RowsAt w v rs) (h : ¬ (dim < 0 ∨ 5 < dim ∨ 24 < rs.length)) (hM : ∀ r ∈ rs, r.a.length ≤ 1000000) :
    Calls Tryz.prog 73 #[.agg #[.int .i64 dim, v]] w fun e w' => e = .returned (errV a (polyErr dim rs)) ∧ Below w.heap.size w w' := by
  have HP := Lib.hid (show polyErr dim rs = if rs.any (shapeR dim) then 3 else if rs.any bigR then 2 else 0 from if_neg h)
  have HV := Lib.hid hv
  have HM := Lib.hid hM
  have HE := Lib.hid he
  obtain ⟨o, cap, rfl, hc⟩ := hv
  clear hc hM he
  obtain ⟨n, hn⟩ : ∃ n, rs.length = n := ⟨_, rfl⟩
  rw [hn] at h HV ⊢
  have HN := Lib.hid hn
  have d1 : decide (dim < 0) = false := by simp; omega
  have d2 : decide (5 < dim) = false := by simp; omega
  have d3 : decide (24 < (n : Int)) = false := by simp; omega
  have hn24 : n ≤ 24 := by omega
  have hd0 : 0 ≤ dim := by omega
  have hd5 : dim ≤ 5 := by omega
  obtain ⟨res, hres⟩ : ∃ r, errV a (polyErr dim rs) = r := ⟨_, rfl⟩
  have HRES := Lib.hid hres
  rw [hres]
  clear hn h hres
  go_enter Tryz.func73, Tryz.ntmps73
  go_wp2_with fail
  have hb0 : Below w.heap.size w (w.alloc (.cells #[.int .i64 dim, .slice o n cap] 29)) := (Below.refl _ _).alloc (Nat.le_refl _) _
  have hbx : ∀ wr, Below (w.heap.size + 1) (w.alloc (.cells #[.int .i64 dim, .slice o n cap] 29)) wr → Hid (Below w.heap.size w wr ∧ wr.cell? ⟨w.heap.size, 0, none⟩ = some (.int .i64 dim) ∧ wr.cell? ⟨w.heap.size, 1, none⟩ = some (.slice o n cap)) := fun wr hb =>
    ⟨hb0.trans (hb.mono (by omega)), (hb.cell (p := ⟨w.heap.size, 0, none⟩) (by simp)).trans (by simp), (hb.cell (p := ⟨w.heap.size, 1, none⟩) (by simp)).trans (by simp)⟩
  go_loopw [25] (fun i wr => ∃ k : Nat, k ≤ n ∧ i = .int .i64 k ∧ Hid ((rs.take k).any (shapeR dim) = false) ∧ Below (w.heap.size + 1) (w.alloc (.cells #[.int .i64 dim, .slice o n cap] 29)) wr) (fun i _ => n - (intOf i).toNat)
  case atStart => exact ⟨0, Nat.zero_le _, rfl, rfl, Below.refl _ _⟩
  case round =>
    obtain ⟨k, hk, rfl, hsh, hb⟩ := hrel
    obtain ⟨hbw, hc0, hc1⟩ := (hbx wr hb).out
    by_cases hlt : k < n
    · have hk' : k < rs.length := by have := HN.out; omega
      obtain ⟨b, off, cap', oa, ca, e1, hbl, h1, h2, h3, h4⟩ := (HV.out.below hbw (Nat.le_refl _)).get hk'
      simp only [Value.slice.injEq] at e1
      obtain ⟨rfl, hnn, rfl⟩ := e1
      have HS : ((((rs[k]'hk').a.length : Nat) : Int) != dim) = false → Hid ((rs.take (k + 1)).any (shapeR dim) = false) := fun h => by
        show (rs.take (k + 1)).any (shapeR dim) = false
        rw [List.take_succ_eq_append_getElem hk', any_snoc, hsh.out, Bool.false_or]
        exact h
      have HX : ((((rs[k]'hk').a.length : Nat) : Int) != dim) = true → Hid (res = sentV a 2) := fun h => by
        show res = sentV a 2
        rw [← HRES.out, HP.out, if_pos (List.any_eq_true.2 ⟨_, List.getElem_mem hk', h⟩)]
        rfl
      clear h3 hnn
      generalize (rs[k]'hk').a.length = la at *
      generalize (rs[k]'hk').b = rb at *
      generalize (rs[k]'hk').eq = re at *
      have hbn : Below (w.heap.size + 1) (w.alloc (.cells #[.int .i64 dim, .slice (some ⟨b, off, none⟩) n cap] 29)) (wr.alloc (.cells #[.bool re, .slice oa la ca, .int .i64 rb] 31)) := hb.alloc (by have := hb.size; simpa using this) _
      have hbw1 : Below w.heap.size w (wr.alloc (.cells #[.bool re, .slice oa la ca, .int .i64 rb] 31)) := hbw.alloc hbw.size _
      have HBN := Lib.hid hbn
      have HBW := Lib.hid hbw1
      have hws : w.heap.size < wr.heap.size := by have := hb.size; simp at this; omega
      by_cases hs : ((la : Int) != dim) = true
      · have HX' := HX hs
        have hg : (wr.alloc (.cells #[.bool re, .slice oa la ca, .int .i64 rb] 31)).cell? ⟨0, 0, none⟩ = some (.iface 320 (.pointer (some (a 2)))) := (HE.out.below hbw1 (Nat.le_refl _)).var 2 (by decide)
        clear HX HS hb hbn hbw hbw1
        go_wp2_with fail
        go_ret
        exact ⟨by rw [HX'.out]; rfl, HBW.out⟩
      · have hs' : ((la : Int) != dim) = false := by simpa using hs
        have HS' := HS hs'
        clear HX HS hs hb hbn hbw hbw1
        go_wp2_with fail
        go_roundw
        case rel => exact ⟨k + 1, by omega, by go_num, HS', HBN.out⟩
        case measure => simp [intOf]; omega
    · obtain rfl : k = n := by omega
      have hT := List.take_of_length_le (l := rs) (i := k) (by have := HN.out; omega)
      rw [hT] at hsh
      rw [hsh.out] at HP
      obtain ⟨w2, rfl⟩ : ∃ w2 : World, w2 = wr := ⟨_, rfl⟩
      have hz2 : w.heap.size < w2.heap.size := by have := hb.size; simp at this; omega
      have HBW := Lib.hid hbw
      have HC0 := Lib.hid hc0
      have HC1 := Lib.hid hc1
      clear hT hsh hbw hb hbx hc0
      go_wp2_with fail
      go_loopw [40] (fun i wr => ∃ k2 : Nat, k2 ≤ k ∧ i = .int .i64 k2 ∧ Hid ((rs.take k2).any bigR = false) ∧ Below w2.heap.size w2 wr) (fun i _ => k - (intOf i).toNat)
      case atStart => exact ⟨0, Nat.zero_le _, rfl, rfl, Below.refl _ _⟩
      case round =>
        obtain ⟨k2, hk2, rfl, hsh, hb⟩ := hrel
        by_cases hlt2 : k2 < k
        · have hk' : k2 < rs.length := by have := HN.out; omega
          have hbw := HBW.out.trans (hb.mono HBW.out.size)
          have hc1 : wr.cell? ⟨w.heap.size, 1, none⟩ = _ := (hb.cell (p := ⟨w.heap.size, 1, none⟩) hz2).trans HC1.out
          obtain ⟨b, off, cap', oa, ca, e1, hbl, h1, h2, h3, h4⟩ := (HV.out.below hbw (Nat.le_refl _)).get hk'
          simp only [Value.slice.injEq] at e1
          obtain ⟨rfl, hnn, rfl⟩ := e1
          have hla := HM.out _ (List.getElem_mem hk')
          have hb1 : Below wr.heap.size wr (wr.alloc (.cells #[.bool (rs[k2]'hk').eq, .slice oa (rs[k2]'hk').a.length ca, .int .i64 (rs[k2]'hk').b] 31)) := (Below.refl _ _).alloc (Nat.le_refl _) _
          have hbn : Below w2.heap.size w2 (wr.alloc (.cells #[.bool (rs[k2]'hk').eq, .slice oa (rs[k2]'hk').a.length ca, .int .i64 (rs[k2]'hk').b] 31)) := hb.trans (hb1.mono hb.size)
          have HA := Lib.hid (large_any _ _ _ (h3.below hb1 (Nat.le_refl _)) hla)
          have hs1 : SliceI ((wr.alloc (.cells #[.bool (rs[k2]'hk').eq, .slice oa (rs[k2]'hk').a.length ca, .int .i64 (rs[k2]'hk').b] 31)).alloc (.cells #[.int .i64 (rs[k2]'hk').b] 3)) (.slice (some ⟨wr.heap.size + 1, 0, none⟩) 1 1) [(rs[k2]'hk').b] := by
            have h := sliceI_one (wr.alloc (.cells #[.bool (rs[k2]'hk').eq, .slice oa (rs[k2]'hk').a.length ca, .int .i64 (rs[k2]'hk').b] 31)) (rs[k2]'hk').b 3
            rwa [World.size_alloc] at h
          have HB := Lib.hid (large_any _ [(rs[k2]'hk').b] _ hs1 (by simp))
          clear hs1
          have HS : bigR (rs[k2]'hk') = false → Hid ((rs.take (k2 + 1)).any bigR = false) := fun h => by
            show (rs.take (k2 + 1)).any bigR = false
            rw [List.take_succ_eq_append_getElem hk', any_snoc, hsh.out, Bool.false_or]
            exact h
          have HX : bigR (rs[k2]'hk') = true → Hid (res = sentV a 1) := fun h => by
            show res = sentV a 1
            have hp := HP.out
            rw [if_neg (by simp), if_pos (List.any_eq_true.2 ⟨_, List.getElem_mem hk', h⟩)] at hp
            rw [← HRES.out, hp]
            rfl
          obtain ⟨g1, hg1⟩ : ∃ g, largeB (rs[k2]'hk').a = g := ⟨_, rfl⟩
          obtain ⟨g2, hg2⟩ : ∃ g, largeB [(rs[k2]'hk').b] = g := ⟨_, rfl⟩
          have hgg : bigR (rs[k2]'hk') = (g1 || g2) := by rw [bigR, hg1, hg2]
          rw [hgg] at HS HX
          rw [hg1] at HA
          rw [hg2] at HB
          clear h3 hg1 hg2 hgg hnn hb1
          generalize (rs[k2]'hk').a.length = la at *
          generalize (rs[k2]'hk').b = rb at *
          generalize (rs[k2]'hk').eq = re at *
          have HBN := Lib.hid hbn
          have hgE : ∀ o, Hid (((wr.alloc (.cells #[.bool re, .slice oa la ca, .int .i64 rb] 31)).alloc o).cell? ⟨1, 0, none⟩ = some (.iface 320 (.pointer (some (a 1))))) := fun o => (HE.out.below ((hbw.alloc hbw.size _).alloc (by have := hbw.size; simp; omega) o) (Nat.le_refl _)).var 1 (by decide)
          have hgE0 : (wr.alloc (.cells #[.bool re, .slice oa la ca, .int .i64 rb] 31)).cell? ⟨1, 0, none⟩ = some (.iface 320 (.pointer (some (a 1)))) := (HE.out.below (hbw.alloc hbw.size _) (Nat.le_refl _)).var 1 (by decide)
          have HGE := Lib.hid hgE
          have HGE0 := Lib.hid hgE0
          have HBW1 := Lib.hid (hbw.alloc hbw.size (.cells #[.bool re, .slice oa la ca, .int .i64 rb] 31))
          clear hgE hgE0 hb hbn
          cases g1
          · cases g2
            · have HS' := HS rfl
              clear HS HX hbw
              go_wp2_with fail
              refine HA.out.mono ?_
              rintro e w3 ⟨rfl, rfl⟩
              go_wp2_with fail
              refine HB.out.mono ?_
              rintro e w3 ⟨rfl, rfl⟩
              go_wp2_with fail
              go_roundw
              case rel => exact ⟨k2 + 1, by omega, by go_num, HS', HBN.out.alloc HBN.out.size _⟩
              case measure => simp [intOf]; omega
            · have HX' := HX rfl
              clear HS HX hbw
              go_wp2_with fail
              refine HA.out.mono ?_
              rintro e w3 ⟨rfl, rfl⟩
              go_wp2_with fail
              refine HB.out.mono ?_
              rintro e w3 ⟨rfl, rfl⟩
              have hg := (HGE.out (.cells #[.int .i64 rb] 3)).out
              go_wp2_with fail
              go_ret
              exact ⟨by rw [HX'.out]; rfl, HBW1.out.alloc HBW1.out.size _⟩
          · have HX' := HX (by simp)
            clear HS HX hbw
            go_wp2_with fail
            refine HA.out.mono ?_
            rintro e w3 ⟨rfl, rfl⟩
            have hg := HGE0.out
            go_wp2_with fail
            go_ret
            exact ⟨by rw [HX'.out]; rfl, HBW1.out⟩
        · obtain rfl : k2 = k := by omega
          have hT := List.take_of_length_le (l := rs) (i := k2) (by have := HN.out; omega)
          rw [hT] at hsh
          have HX' := Lib.hid (show res = .nilIface by
            have hp := HP.out
            rw [if_neg (by simp), if_neg (by rw [hsh.out]; simp)] at hp
            rw [← HRES.out, hp]
            rfl)
          have HBN := Lib.hid (HBW.out.trans (hb.mono HBW.out.size))
          clear hsh hT hb
          go_wp2_with fail
          go_ret
          exact ⟨by rw [HX'.out]; rfl, HBN.out⟩

theorem valid_any (v : Value) (dim : Int) (rs : List RowZ) (a : Nat → Addr) (w : World) (he : ErrW w a) (hv : RowsAt w v rs) (hM : ∀ r ∈ rs, r.a.length ≤ 1000000) :
    Calls Tryz.prog 73 #[.agg #[.int .i64 dim, v]] w fun e w' => e = .returned (errV a (polyErr dim rs)) ∧ Below w.heap.size w w' := by
  by_cases h : dim < 0 ∨ 5 < dim ∨ 24 < rs.length
  · rw [show polyErr dim rs = 2 from if_pos h]
    exact valid_bound v dim rs a w he hv h
  · exact valid_in v dim rs a w he hv h hM
end Go.Proofs.YtochcofoknfjfaaGreatDoor
