/- Walks: farkas.told, farkas.large, farkas.check. Walks: farkas.Check where it tells an error of the rows' or of the shape. -/
import Derived.Test.YtochcofoknfjfaaGreatDoorP3
import Derived.Test.YtochcofoknfjfaaGreatDoorRowF
namespace Go.Proofs.YtochcofoknfjfaaGreatDoor
open Go Go.RowKit Nt

def toldB (z : Int) : Bool := decide (z ≤ 4611686018427387904) && decide (-4611686018427387904 ≤ z)

set_option maxRecDepth 100000 in
set_option maxHeartbeats 1000000 in
theorem ftold_any (z : Int) (w : World) : Calls Tryz.prog 45 #[.int .i64 z] w fun e w' => e = .returned (.bool (toldB z)) ∧ w = w' := by
  have HT : Hid (toldB z = (decide (z ≤ 4611686018427387904) && decide (-4611686018427387904 ≤ z))) := rfl
  obtain ⟨res, hres⟩ : ∃ r, toldB z = r := ⟨_, rfl⟩
  rw [hres] at HT ⊢
  clear hres
  by_cases h1 : z ≤ 4611686018427387904
  · have d1 : decide (z ≤ 4611686018427387904) = true := by simpa using h1
    rw [d1] at HT
    have HT' := Lib.hid (show res = decide (-4611686018427387904 ≤ z) by have := HT.out; simpa using this)
    clear HT h1
    obtain ⟨g, hg⟩ : ∃ g, decide (-4611686018427387904 ≤ z) = g := ⟨_, rfl⟩
    rw [hg] at HT'
    go_enter Tryz.func45, Tryz.ntmps45
    go_wp2_with fail
    go_ret
    exact ⟨by rw [HT'.out]; simp [← hg], rfl⟩
  · have d1 : decide (z ≤ 4611686018427387904) = false := by simpa using h1
    rw [d1] at HT
    have HT' := Lib.hid (show res = false by have := HT.out; simpa using this)
    clear HT h1
    go_enter Tryz.func45, Tryz.ntmps45
    go_wp2_with fail
    go_ret
    exact ⟨by rw [HT'.out]; rfl, rfl⟩

set_option maxRecDepth 100000 in
set_option maxHeartbeats 2000000 in
theorem flarge_any (ra : Value) (r : RowZ) (w : World) (hr : SliceI w ra r.a) (hl : r.a.length ≤ 1000000) :
    Calls Tryz.prog 46 #[.agg #[.bool r.eq, ra, .int .i64 r.b]] w fun e w' => e = .returned (.bool (bigR r)) ∧ Below w.heap.size w w' := by
  obtain ⟨oa, ca, e0, hq⟩ := hr
  have hr : SliceI w ra r.a := ⟨oa, ca, e0, hq⟩
  clear hq
  subst e0
  have hb1 : Below w.heap.size w (w.alloc (.cells #[.bool r.eq, .slice oa r.a.length ca, .int .i64 r.b] 31)) := (Below.refl _ _).alloc (Nat.le_refl _) _
  have HA := Lib.hid (large_any _ _ _ (hr.below hb1 (Nat.le_refl _)) hl)
  have hs1 : SliceI ((w.alloc (.cells #[.bool r.eq, .slice oa r.a.length ca, .int .i64 r.b] 31)).alloc (.cells #[.int .i64 r.b] 3)) (.slice (some ⟨w.heap.size + 1, 0, none⟩) 1 1) [r.b] := by
    have h := sliceI_one (w.alloc (.cells #[.bool r.eq, .slice oa r.a.length ca, .int .i64 r.b] 31)) r.b 3
    rwa [World.size_alloc] at h
  have HB := Lib.hid (large_any _ [r.b] _ hs1 (by simp))
  have HB1 := Lib.hid hb1
  have HB2 := Lib.hid (fun o => hb1.alloc (by simp) o)
  have HR : Hid (bigR r = (largeB r.a || largeB [r.b])) := rfl
  clear hs1 hb1 hr hl
  generalize bigR r = res at *
  generalize largeB r.a = g1 at *
  generalize largeB [r.b] = g2 at *
  generalize r.a.length = la at *
  generalize r.b = rb at *
  generalize r.eq = re at *
  cases g1
  · go_enter Tryz.func46, Tryz.ntmps46
    go_wp2_with fail
    refine HA.out.mono ?_
    rintro e w1 ⟨rfl, rfl⟩
    go_wp2_with fail
    refine HB.out.mono ?_
    rintro e w1 ⟨rfl, rfl⟩
    go_wp2_with fail
    go_ret
    exact ⟨by rw [HR.out]; simp, HB2.out _⟩
  · go_enter Tryz.func46, Tryz.ntmps46
    go_wp2_with fail
    refine HA.out.mono ?_
    rintro e w1 ⟨rfl, rfl⟩
    go_wp2_with fail
    go_ret
    exact ⟨by rw [HR.out]; simp, HB1.out⟩

theorem errV_zero (a : Nat → Addr) : errV a 0 = .nilIface := rfl
theorem errV_three (a : Nat → Addr) : errV a 3 = sentV a 2 := rfl
theorem polyErr_cases (dim : Int) (rs : List RowZ) : polyErr dim rs = 0 ∨ polyErr dim rs = 2 ∨ polyErr dim rs = 3 := by
  unfold polyErr
  split
  · exact .inr (.inl rfl)
  · split
    · exact .inr (.inr rfl)
    · split
      · exact .inr (.inl rfl)
      · exact .inl rfl

set_option maxRecDepth 100000 in
set_option maxHeartbeats 2000000 in
theorem fcheck_any (v ra : Value) (dim : Int) (rs : List RowZ) (r : RowZ) (a : Nat → Addr) (w : World) (he : ErrW w a) (hv : RowsAt w v rs) (hr : SliceI w ra r.a) (hM : ∀ r ∈ rs, r.a.length ≤ 1000000) :
    Calls Tryz.prog 44 #[.agg #[.int .i64 dim, v], .agg #[.bool r.eq, ra, .int .i64 r.b]] w fun e w' => e = .returned (errV a (rowErr dim rs r)) ∧ Below w.heap.size w w' := by
  obtain ⟨oa, ca, rfl, hq⟩ := hr
  clear hq
  obtain ⟨o, cap, e0, hq⟩ := hv
  have hv : RowsAt w v rs := ⟨o, cap, e0, hq⟩
  clear hq
  subst e0
  have hb2 : Below w.heap.size w ((w.alloc (.cells #[.int .i64 dim, .slice o rs.length cap] 29)).alloc (.cells #[.bool r.eq, .slice oa r.a.length ca, .int .i64 r.b] 31)) := ((Below.refl _ _).alloc (Nat.le_refl _) _).alloc (by simp) _
  have HC := Lib.hid (valid_any _ dim rs a _ (he.below hb2 (Nat.le_refl _)) (hv.below hb2 (Nat.le_refl _)) hM)
  have HB2 := Lib.hid hb2
  have HE := Lib.hid he
  have HR : Hid (rowErr dim rs r = if polyErr dim rs ≠ 0 then polyErr dim rs else if r.eq = true ∨ (r.a.length : Int) ≠ dim then 3 else 0) := rfl
  have HPC := Lib.hid (polyErr_cases dim rs)
  clear hb2 hM hv he
  obtain ⟨e, he⟩ : ∃ e, errV a (rowErr dim rs r) = e := ⟨_, rfl⟩
  have HEV := Lib.hid he
  rw [he]
  generalize rowErr dim rs r = rc at *
  generalize polyErr dim rs = c at *
  generalize r.a.length = la at *
  generalize rs.length = n at *
  generalize r.eq = re at *
  generalize r.b = rb at *
  clear he
  have hfin : ∀ (w1 : World), Below ((w.alloc (.cells #[.int .i64 dim, .slice o n cap] 29)).alloc (.cells #[.bool re, .slice oa la ca, .int .i64 rb] 31)).heap.size ((w.alloc (.cells #[.int .i64 dim, .slice o n cap] 29)).alloc (.cells #[.bool re, .slice oa la ca, .int .i64 rb] 31)) w1 → Hid (Below w.heap.size w w1 ∧ w1.cell? ⟨w.heap.size, 0, none⟩ = some (.int .i64 dim) ∧ w1.cell? ⟨w.heap.size + 1, 0, none⟩ = some (.bool re) ∧ w1.cell? ⟨w.heap.size + 1, 1, none⟩ = some (.slice oa la ca) ∧ w1.cell? ⟨0, 0, none⟩ = some (.iface 320 (.pointer (some (a 2))))) := fun w1 hb =>
    ⟨HB2.out.trans (hb.mono (by simp; omega)), (hb.cell (p := ⟨w.heap.size, 0, none⟩) (by simp; omega)).trans (by simp), (hb.cell (p := ⟨w.heap.size + 1, 0, none⟩) (by simp)).trans (by simp), (hb.cell (p := ⟨w.heap.size + 1, 1, none⟩) (by simp)).trans (by simp), (HE.out.below (HB2.out.trans (hb.mono (by simp; omega))) (Nat.le_refl _)).var 2 (by decide)⟩
  have HF := Lib.hid hfin
  clear hfin HE HB2
  rcases HPC.out with rfl | rfl | rfl
  · rw [errV_zero] at HC
    clear HPC
    cases re
    · by_cases hd : ((la : Int) != dim) = true
      · have HR' := Lib.hid (show e = sentV a 2 by
          have h1 := HR.out
          have hd' : (la : Int) ≠ dim := by simpa using hd
          rw [if_neg (by simp), if_pos (.inr hd')] at h1
          rw [← HEV.out, h1]; rfl)
        clear HR HEV
        go_enter Tryz.func44, Tryz.ntmps44
        go_wp2_with fail
        refine HC.out.mono ?_
        rintro e1 w1 ⟨rfl, hb⟩
        obtain ⟨hbw, c0, c1, c2, c3⟩ := (HF.out w1 hb).out
        have HBW := Lib.hid hbw
        clear hb hbw
        go_wp2_with fail
        go_ret
        exact ⟨by rw [HR'.out]; rfl, HBW.out⟩
      · have hd' : ((la : Int) != dim) = false := by simpa using hd
        have HR' := Lib.hid (show e = .nilIface by
          have h1 := HR.out
          have hd' : (la : Int) = dim := by simpa using hd
          rw [if_neg (by simp), if_neg (by simp [hd'])] at h1
          rw [← HEV.out, h1]; rfl)
        clear HR HEV hd
        go_enter Tryz.func44, Tryz.ntmps44
        go_wp2_with fail
        refine HC.out.mono ?_
        rintro e1 w1 ⟨rfl, hb⟩
        obtain ⟨hbw, c0, c1, c2, c3⟩ := (HF.out w1 hb).out
        have HBW := Lib.hid hbw
        clear hb hbw
        go_wp2_with fail
        go_ret
        exact ⟨by rw [HR'.out]; rfl, HBW.out⟩
    · have HR' := Lib.hid (show e = sentV a 2 by
          have h1 := HR.out
          rw [if_neg (by simp), if_pos (.inl rfl)] at h1
          rw [← HEV.out, h1]; rfl)
      clear HR HEV
      go_enter Tryz.func44, Tryz.ntmps44
      go_wp2_with fail
      refine HC.out.mono ?_
      rintro e1 w1 ⟨rfl, hb⟩
      obtain ⟨hbw, c0, c1, c2, c3⟩ := (HF.out w1 hb).out
      have HBW := Lib.hid hbw
      clear hb hbw
      go_wp2_with fail
      go_ret
      exact ⟨by rw [HR'.out]; rfl, HBW.out⟩
  all_goals
    have HR' := Lib.hid (show rc = _ from HR.out.trans (if_pos (by simp)))
    clear HR HPC
    have HC' := HC
    have HEV' := HEV
    rw [HR'.out] at HEV'
    rw [show errV a _ = sentV a _ from rfl] at HC' HEV'
    unfold sentV at HC' HEV'
    clear HC HEV HR'
    go_enter Tryz.func44, Tryz.ntmps44
    go_wp2_with fail
    refine HC'.out.mono ?_
    rintro e1 w1 ⟨rfl, hb⟩
    obtain ⟨hbw, _, _, _, _⟩ := (HF.out w1 hb).out
    have HBW := Lib.hid hbw
    clear hb hbw
    go_wp2_with fail
    go_ret
    exact ⟨by rw [← HEV'.out]; rfl, HBW.out⟩
end Go.Proofs.YtochcofoknfjfaaGreatDoor
namespace Go.Proofs.YtochcofoknfjfaaGreatDoor
open Go Go.RowKit Nt

theorem rowErr_cases (dim : Int) (rs : List RowZ) (r : RowZ) : rowErr dim rs r = 0 ∨ rowErr dim rs r = 2 ∨ rowErr dim rs r = 3 := by
  unfold rowErr
  split
  · exact polyErr_cases dim rs
  · split
    · exact .inr (.inr rfl)
    · exact .inl rfl
theorem rowErr_zero {dim : Int} {rs : List RowZ} {r : RowZ} (h : rowErr dim rs r = 0) : polyErr dim rs = 0 ∧ r.eq = false ∧ (r.a.length : Int) = dim := by
  unfold rowErr at h
  split at h
  · next h1 => exact absurd h h1
  · next h1 =>
    split at h
    · simp at h
    · next h2 =>
      refine ⟨by simpa using h1, ?_, ?_⟩
      · cases e : r.eq
        · rfl
        · exact absurd (.inl e) h2
      · by_cases e : (r.a.length : Int) = dim
        · exact e
        · exact absurd (.inr e) h2
theorem polyErr_zero {dim : Int} {rs : List RowZ} (h : polyErr dim rs = 0) : 0 ≤ dim ∧ dim ≤ 5 ∧ rs.length ≤ 24 ∧ (∀ r ∈ rs, (r.a.length : Int) = dim) ∧ ∀ r ∈ rs, bigR r = false := by
  unfold polyErr at h
  split at h
  · simp at h
  · next h1 =>
    split at h
    · simp at h
    · next h2 =>
      split at h
      · simp at h
      · next h3 =>
        refine ⟨by omega, by omega, by omega, fun r hr => ?_, fun r hr => ?_⟩
        · rw [Bool.not_eq_true, List.any_eq_false] at h2
          have := h2 r hr
          simpa [shapeR] using this
        · rw [Bool.not_eq_true, List.any_eq_false] at h3
          simpa using h3 r hr

/-- The world behind Check's three boxes. -/
abbrev chkW (w : World) (dim : Int) (o : Option Addr) (n cap : Nat) (re : Bool) (oa : Option Addr) (la ca : Nat) (rb : Int) (of : Option Addr) (m cf : Nat) (den : Int) : World :=
  ((w.alloc (.cells #[.int .i64 dim, .slice o n cap] 29)).alloc (.cells #[.bool re, .slice oa la ca, .int .i64 rb] 31)).alloc (.cells #[.slice of m cf, .int .i64 den] 40)

theorem chkW_below (w : World) (dim : Int) (o : Option Addr) (n cap : Nat) (re : Bool) (oa : Option Addr) (la ca : Nat) (rb : Int) (of : Option Addr) (m cf : Nat) (den : Int) :
    Below w.heap.size w (chkW w dim o n cap re oa la ca rb of m cf den) := (((Below.refl _ _).alloc (Nat.le_refl _) _).alloc (by simp) _).alloc (by simp; omega) _
theorem chkW_size (w : World) (dim : Int) (o : Option Addr) (n cap : Nat) (re : Bool) (oa : Option Addr) (la ca : Nat) (rb : Int) (of : Option Addr) (m cf : Nat) (den : Int) :
    (chkW w dim o n cap re oa la ca rb of m cf den).heap.size = w.heap.size + 1 + 1 + 1 := by simp
/-- Its cells, in a later world. -/
theorem chkW_cells {w w1 : World} {dim : Int} {o : Option Addr} {n cap : Nat} {re : Bool} {oa : Option Addr} {la ca : Nat} {rb : Int} {of : Option Addr} {m cf : Nat} {den : Int}
    (hb : Below (w.heap.size + 1 + 1 + 1) (chkW w dim o n cap re oa la ca rb of m cf den) w1) :
    Below w.heap.size w w1 ∧ (w1.cell? ⟨w.heap.size, 0, none⟩ = some (.int .i64 dim) ∧ w1.cell? ⟨w.heap.size, 1, none⟩ = some (.slice o n cap)) ∧
    (w1.cell? ⟨w.heap.size + 1, 0, none⟩ = some (.bool re) ∧ w1.cell? ⟨w.heap.size + 1, 1, none⟩ = some (.slice oa la ca) ∧ w1.cell? ⟨w.heap.size + 1, 2, none⟩ = some (.int .i64 rb)) ∧
    (w1.cell? ⟨w.heap.size + 1 + 1, 0, none⟩ = some (.slice of m cf) ∧ w1.cell? ⟨w.heap.size + 1 + 1, 1, none⟩ = some (.int .i64 den)) :=
  by
  have hb0 := (chkW_below ..).trans (hb.mono (by omega : w.heap.size ≤ w.heap.size + 1 + 1 + 1))
  have B1 : Blk (chkW w dim o n cap re oa la ca rb of m cf den) w.heap.size #[.int .i64 dim, .slice o n cap] 29 := ((Blk.new w _ _).alloc _).alloc _
  have B2 : Blk (chkW w dim o n cap re oa la ca rb of m cf den) (w.heap.size + 1) #[.bool re, .slice oa la ca, .int .i64 rb] 31 := by
    have := (Blk.new (w.alloc (.cells #[.int .i64 dim, .slice o n cap] 29)) #[.bool re, .slice oa la ca, .int .i64 rb] 31).alloc (.cells #[.slice of m cf, .int .i64 den] 40)
    rwa [World.size_alloc] at this
  have B3 : Blk (chkW w dim o n cap re oa la ca rb of m cf den) (w.heap.size + 1 + 1) #[.slice of m cf, .int .i64 den] 40 := by
    have := Blk.new ((w.alloc (.cells #[.int .i64 dim, .slice o n cap] 29)).alloc (.cells #[.bool re, .slice oa la ca, .int .i64 rb] 31)) #[.slice of m cf, .int .i64 den] 40
    rwa [World.size_alloc, World.size_alloc] at this
  have C1 := (B1.below hb (by omega))
  have C2 := (B2.below hb (by omega))
  have C3 := (B3.below hb (by omega))
  exact ⟨hb0, ⟨(C1.cell 0).trans rfl, (C1.cell 1).trans rfl⟩, ⟨(C2.cell 0).trans rfl, (C2.cell 1).trans rfl, (C2.cell 2).trans rfl⟩, (C3.cell 0).trans rfl, (C3.cell 1).trans rfl⟩

set_option maxRecDepth 100000 in
set_option maxHeartbeats 2000000 in
theorem check_err (v ra fa : Value) (dim den : Int) (rs : List RowZ) (r : RowZ) (ws : List Int) (a : Nat → Addr) (w : World) (he : ErrW w a) (hv : RowsAt w v rs) (hr : SliceI w ra r.a) (hf : SliceI w fa ws) (hM : ∀ r ∈ rs, r.a.length ≤ 1000000)
    (h : rowErr dim rs r ≠ 0) :
    Calls Tryz.prog 18 #[.agg #[.int .i64 dim, v], .agg #[.bool r.eq, ra, .int .i64 r.b], .agg #[fa, .int .i64 den]] w fun e w' => e = .returned (.tuple #[.bool false, errV a (rowErr dim rs r)]) ∧ Below w.heap.size w w' := by
  have hlen : ∀ (u : Value), SliceI w u ws → ∃ o c, u = .slice o ws.length c := fun u h => by obtain ⟨o, c, rfl, _⟩ := h; exact ⟨o, c, rfl⟩
  obtain ⟨of, cf, rfl⟩ := hlen fa hf
  obtain ⟨oa, ca, e1, hq⟩ := hr
  have hr : SliceI w ra r.a := ⟨oa, ca, e1, hq⟩
  obtain ⟨o, cap, e2, hq2⟩ := hv
  have hv : RowsAt w v rs := ⟨o, cap, e2, hq2⟩
  clear hq hq2 hlen hf
  subst e1 e2
  have hb3 := chkW_below w dim o rs.length cap r.eq oa r.a.length ca r.b of ws.length cf den
  have HC := Lib.hid (fcheck_any _ _ dim rs r a _ (he.below hb3 (Nat.le_refl _)) (hv.below hb3 (Nat.le_refl _)) (hr.below hb3 (Nat.le_refl _)) hM)
  have HB := Lib.hid (fun w1 (hb : Below (chkW w dim o rs.length cap r.eq oa r.a.length ca r.b of ws.length cf den).heap.size (chkW w dim o rs.length cap r.eq oa r.a.length ca r.b of ws.length cf den) w1) => hb3.trans (hb.mono hb3.size))
  clear hb3 he hv hr hM
  have hc := rowErr_cases dim rs r
  generalize rowErr dim rs r = c at *
  generalize r.a.length = la at *
  generalize rs.length = n at *
  generalize ws.length = m at *
  generalize r.eq = re at *
  generalize r.b = rb at *
  rcases hc with rfl | rfl | rfl
  · exact absurd rfl h
  all_goals
    clear h
    rw [show errV a _ = sentV a _ from rfl] at HC ⊢
    unfold sentV at HC ⊢
    go_enter Tryz.func18, Tryz.ntmps18
    go_wp2_with fail
    refine HC.out.mono ?_
    rintro e1 w1 ⟨rfl, hb⟩
    have HBW := Lib.hid (HB.out w1 hb)
    clear hb
    go_wp2_with fail
    go_ret2
    exact ⟨rfl, HBW.out⟩

set_option maxRecDepth 100000 in
set_option maxHeartbeats 2000000 in
theorem check_shape (v ra fa : Value) (dim den : Int) (rs : List RowZ) (r : RowZ) (ws : List Int) (a : Nat → Addr) (w : World) (he : ErrW w a) (hv : RowsAt w v rs) (hr : SliceI w ra r.a) (hf : SliceI w fa ws) (hM : ∀ r ∈ rs, r.a.length ≤ 1000000)
    (h : rowErr dim rs r = 0) (h2 : ws.length ≠ rs.length ∨ den < 1) :
    Calls Tryz.prog 18 #[.agg #[.int .i64 dim, v], .agg #[.bool r.eq, ra, .int .i64 r.b], .agg #[fa, .int .i64 den]] w fun e w' => e = .returned (.tuple #[.bool false, sentV a 2]) ∧ Below w.heap.size w w' := by
  have hlen : ∀ (u : Value), SliceI w u ws → ∃ o c, u = .slice o ws.length c := fun u h => by obtain ⟨o, c, rfl, _⟩ := h; exact ⟨o, c, rfl⟩
  obtain ⟨of, cf, rfl⟩ := hlen fa hf
  obtain ⟨oa, ca, e1, hq⟩ := hr
  have hr : SliceI w ra r.a := ⟨oa, ca, e1, hq⟩
  obtain ⟨o, cap, e2, hq2⟩ := hv
  have hv : RowsAt w v rs := ⟨o, cap, e2, hq2⟩
  clear hq hq2 hlen hf
  subst e1 e2
  have hb3 := chkW_below w dim o rs.length cap r.eq oa r.a.length ca r.b of ws.length cf den
  have HC := Lib.hid (fcheck_any _ _ dim rs r a _ (he.below hb3 (Nat.le_refl _)) (hv.below hb3 (Nat.le_refl _)) (hr.below hb3 (Nat.le_refl _)) hM)
  rw [h, errV_zero] at HC
  have HE := Lib.hid he
  clear hb3 he hv hr hM h
  generalize r.a.length = la at *
  generalize rs.length = n at *
  generalize ws.length = m at *
  generalize r.eq = re at *
  generalize r.b = rb at *
  have HF : Hid (∀ w1, Below (chkW w dim o n cap re oa la ca rb of m cf den).heap.size (chkW w dim o n cap re oa la ca rb of m cf den) w1 → Hid (Below w.heap.size w w1 ∧ (w1.cell? ⟨w.heap.size, 1, none⟩ = some (.slice o n cap) ∧ w1.cell? ⟨w.heap.size + 1 + 1, 0, none⟩ = some (.slice of m cf) ∧ w1.cell? ⟨w.heap.size + 1 + 1, 1, none⟩ = some (.int .i64 den)) ∧ w1.cell? ⟨0, 0, none⟩ = some (.iface 320 (.pointer (some (a 2)))))) := fun w1 hb => by
    rw [chkW_size] at hb
    obtain ⟨k1, ⟨_, k2⟩, _, k3, k4⟩ := chkW_cells hb
    exact ⟨k1, ⟨k2, k3, k4⟩, (HE.out.below k1 (Nat.le_refl _)).var 2 (by decide)⟩
  clear HE
  by_cases h3 : m = n
  · have d2 : decide (den < 1) = true := by simp; omega
    subst h3
    clear h2
    go_enter Tryz.func18, Tryz.ntmps18
    go_wp2_with fail
    refine HC.out.mono ?_
    rintro e1 w1 ⟨rfl, hb⟩
    obtain ⟨hbw, ⟨k2, k3, k4⟩, k5⟩ := (HF.out w1 hb).out
    have HBW := Lib.hid hbw
    clear hb hbw
    go_wp2_with fail
    go_quiet (fail)
    go_wp2_with fail
    go_ret2
    exact ⟨rfl, below_drewN' HBW.out _⟩
  · have d2 : ((m : Int) != (n : Int)) = true := by simp; omega
    clear h2 h3
    go_enter Tryz.func18, Tryz.ntmps18
    go_wp2_with fail
    refine HC.out.mono ?_
    rintro e1 w1 ⟨rfl, hb⟩
    obtain ⟨hbw, ⟨k2, k3, k4⟩, k5⟩ := (HF.out w1 hb).out
    have HBW := Lib.hid hbw
    clear hb hbw
    go_wp2_with fail
    go_quiet (fail)
    go_wp2_with fail
    go_ret2
    exact ⟨rfl, below_drewN' HBW.out _⟩
end Go.Proofs.YtochcofoknfjfaaGreatDoor
