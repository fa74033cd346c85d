/- Walk: farkas.Check at every input. Walk: the law's closed fact two. Walk of the law FarkasCheck: its two boxes; inputs that are too wide. -/
import Derived.Test.YtochcofoknfjfaaGreatDoorP7
import Derived.Test.YtochcofoknfjfaaGreatDoorP3
namespace Go.Proofs.YtochcofoknfjfaaGreatDoor
open Go Go.RowKit Nt

/-- The number of the error that Check tells. -/
def chkErr (dim : Int) (rs : List RowZ) (r : RowZ) (ws : List Int) (den : Int) : Int :=
  if rowErr dim rs r ≠ 0 then rowErr dim rs r else if ws.length ≠ rs.length ∨ den < 1 then 3 else if (bigR r || !okB den ws) = true then 2 else 0
/-- What Check leaves. -/
def ChkRes (a : Nat → Addr) (dim : Int) (rs : List RowZ) (r : RowZ) (ws : List Int) (den : Int) (w : World) (e : Ending) (w' : World) : Prop :=
  ∃ g, e = .returned (.tuple #[.bool g, errV a (chkErr dim rs r ws den)]) ∧ (chkErr dim rs r ws den ≠ 0 → g = false) ∧ (chkErr dim rs r ws den = 0 → (g = true ↔ Holds dim.toNat rs r ws den)) ∧ Below w.heap.size w w'

theorem check_any (v ra fa : Value) (dim den : Int) (rs : List RowZ) (r : RowZ) (ws : List Int) (a : Nat → Addr) (w : World) (he : ErrW w a) (hv : RowsAt w v rs) (hr : SliceI w ra r.a) (hf : SliceI w fa ws) (hM : ∀ r ∈ rs, r.a.length ≤ 1000000)
    (hden : den ≤ 9223372036854775807) (h64 : I64 ws) :
    Calls Tryz.prog 18 #[.agg #[.int .i64 dim, v], .agg #[.bool r.eq, ra, .int .i64 r.b], .agg #[fa, .int .i64 den]] w (ChkRes a dim rs r ws den w) := by
  by_cases h : rowErr dim rs r = 0
  · by_cases h2 : ws.length ≠ rs.length ∨ den < 1
    · have e3 : chkErr dim rs r ws den = 3 := by unfold chkErr; rw [if_neg (by simpa using h), if_pos h2]
      refine (check_shape v ra fa dim den rs r ws a w he hv hr hf hM h h2).mono ?_
      rintro e w' ⟨rfl, hb⟩
      refine ⟨false, by rw [e3]; rfl, fun _ => rfl, fun h => ?_, hb⟩
      rw [e3] at h
      cases h
    · obtain ⟨d, rfl⟩ : ∃ d : Nat, dim = d := ⟨dim.toNat, by have := (polyErr_zero (rowErr_zero h).1).1; omega⟩
      simp only [not_or, Decidable.not_not] at h2
      have ec : chkErr d rs r ws den = if (bigR r || !okB den ws) = true then 2 else 0 := by
        unfold chkErr
        rw [if_neg (by simpa using h), if_neg (by omega)]
      refine (check_main v ra fa d den rs r ws a w he hv hr hf h h2.1 (by omega) hden h64).mono ?_
      rintro e w' ⟨⟨h1, h3⟩, hb⟩
      cases hB : (bigR r || !okB den ws)
      · rw [hB] at ec
        obtain ⟨g, rfl, hg⟩ := h3 hB
        refine ⟨g, by rw [ec]; rfl, fun h => ?_, fun _ => ?_, hb⟩
        · rw [ec] at h; simp at h
        · rw [Int.toNat_natCast]; exact hg
      · rw [hB] at ec
        refine ⟨false, by rw [ec]; exact h1 hB, fun _ => rfl, fun h => ?_, hb⟩
        rw [ec] at h; simp at h
  · have ec : chkErr dim rs r ws den = rowErr dim rs r := by unfold chkErr; rw [if_pos h]
    refine (check_err v ra fa dim den rs r ws a w he hv hr hf hM h).mono ?_
    rintro e w' ⟨rfl, hb⟩
    refine ⟨false, by rw [ec], fun _ => rfl, fun h' => ?_, hb⟩
    rw [ec] at h'
    exact absurd h' h
end Go.Proofs.YtochcofoknfjfaaGreatDoor
namespace Go.Proofs.YtochcofoknfjfaaGreatDoor
open Go Go.RowKit Nt

theorem two_holds : Holds 1 [⟨false, [1], 1⟩] ⟨false, [1], 0⟩ [1] 1 := by
  refine ⟨fun i h h' hh => ?_, .inr ⟨fun k h => ?_, ?_⟩⟩
  · have : i = 0 := by simp at h; omega
    subst this
    simp at hh
  · have : k = 0 := by omega
    subst this
    rfl
  · decide
theorem two_err : chkErr 1 [⟨false, [1], 1⟩] ⟨false, [1], 0⟩ [1] 1 = 0 := by decide

abbrev twoW1 (w : World) : World := w.alloc (.cells #[.int .i64 1] 3)
abbrev twoW2 (w : World) : World := (twoW1 w).alloc (.cells #[.bool false, .slice (some ⟨w.heap.size, 0, none⟩) 1 1, .int .i64 1] 31)
abbrev twoW3 (w : World) : World := (twoW2 w).alloc (.cells #[.int .i64 1, .slice (some ⟨w.heap.size + 1, 0, none⟩) 1 1] 29)
abbrev twoW4 (w : World) : World := (twoW3 w).alloc (.cells #[.int .i64 1] 3)
abbrev twoW5 (w : World) : World := (twoW4 w).alloc (.cells #[.int .i64 1] 3)
theorem two_below (w : World) : Below w.heap.size w (twoW5 w) :=
  (((((Below.refl _ _).alloc (Nat.le_refl _) _).alloc (by simp) _).alloc (by simp; omega) _).alloc (by simp; omega) _).alloc (by simp; omega) _
theorem two_rows (w : World) : RowsAt (twoW5 w) (.slice (some ⟨w.heap.size + 1, 0, none⟩) 1 1) [⟨false, [1], 1⟩] := by
  have hb : Blk (twoW5 w) (w.heap.size + 1) #[.bool false, .slice (some ⟨w.heap.size, 0, none⟩) 1 1, .int .i64 1] 31 := by
    have := ((Blk.new (twoW1 w) #[.bool false, .slice (some ⟨w.heap.size, 0, none⟩) 1 1, .int .i64 1] 31).alloc (.cells #[.int .i64 1, .slice (some ⟨w.heap.size + 1, 0, none⟩) 1 1] 29)).alloc (.cells #[.int .i64 1] 3) |>.alloc (.cells #[.int .i64 1] 3)
    rwa [World.size_alloc] at this
  have hs : SliceI (twoW5 w) (.slice (some ⟨w.heap.size, 0, none⟩) 1 1) [1] :=
    (sliceI_one w 1 3).below (B1 := (twoW1 w).heap.size) (((((Below.refl _ _).alloc (Nat.le_refl _) _).alloc (by simp) _).alloc (by simp) _).alloc (by simp) _) (Nat.le_refl _)
  refine ⟨_, 1, rfl, fun _ => ⟨_, 0, rfl, by simp, fun i hi => ?_⟩⟩
  have : i = 0 := by simp at hi; omega
  subst this
  exact ⟨_, (hb.cell 0).trans rfl, (hb.cell 1).trans rfl, hs, (hb.cell 2).trans rfl⟩
theorem two_a (w : World) : SliceI (twoW5 w) (.slice (some ⟨w.heap.size + 1 + 1 + 1, 0, none⟩) 1 1) [1] := by
  have h := (sliceI_one (twoW3 w) 1 3).below (B1 := (twoW4 w).heap.size) ((Below.refl _ _).alloc (Nat.le_refl _) (.cells #[.int .i64 1] 3)) (Nat.le_refl _)
  rwa [World.size_alloc, World.size_alloc, World.size_alloc] at h
theorem two_w (w : World) : SliceI (twoW5 w) (.slice (some ⟨w.heap.size + 1 + 1 + 1 + 1, 0, none⟩) 1 1) [1] := by
  have h := sliceI_one (twoW4 w) 1 3
  rwa [World.size_alloc, World.size_alloc, World.size_alloc, World.size_alloc] at h

set_option maxRecDepth 100000 in
set_option maxHeartbeats 2000000 in
theorem two_any (a : Nat → Addr) (w : World) (he : ErrW w a) : Calls Tryz.prog 15 #[] w fun e w' => e = .returned (.bool true) ∧ Below w.heap.size w w' := by
  have HC := Lib.hid (check_any (.slice (some ⟨w.heap.size + 1, 0, none⟩) 1 1) (.slice (some ⟨w.heap.size + 1 + 1 + 1, 0, none⟩) 1 1) (.slice (some ⟨w.heap.size + 1 + 1 + 1 + 1, 0, none⟩) 1 1) 1 1 [⟨false, [1], 1⟩] ⟨false, [1], 0⟩ [1] a (twoW5 w) (he.below (two_below w) (Nat.le_refl _)) (two_rows w) (two_a w) (two_w w) (fun r hr => by simp at hr; subst hr; simp) (by omega) (fun z hz => by simp at hz; omega))
  clear he
  go_enter Tryz.func15, Tryz.ntmps15
  go_wp2_with fail
  refine HC.out.mono ?_
  rintro e w1 ⟨g, rfl, _, hg, hb⟩
  rw [two_err]
  have hg1 : g = true := (hg two_err).2 two_holds
  subst hg1
  rw [errV_zero]
  have HB := Lib.hid ((two_below w).trans (hb.mono (two_below w).size))
  clear hg hb HC
  go_wp2_with fail
  go_ret
  exact ⟨rfl, HB.out⟩
end Go.Proofs.YtochcofoknfjfaaGreatDoor
namespace Go.Proofs.YtochcofoknfjfaaGreatDoor
open Go Go.RowKit Nt

/-- The world behind the law's two boxes. -/
abbrev lawW (w : World) (dim : Int) (o : Option Addr) (n cap : Nat) (re : Bool) (oa : Option Addr) (la ca : Nat) (rb : Int) : World :=
  (w.alloc (.cells #[.int .i64 dim, .slice o n cap] 29)).alloc (.cells #[.bool re, .slice oa la ca, .int .i64 rb] 31)
theorem lawW_below (w : World) (dim : Int) (o : Option Addr) (n cap : Nat) (re : Bool) (oa : Option Addr) (la ca : Nat) (rb : Int) :
    Below w.heap.size w (lawW w dim o n cap re oa la ca rb) := ((Below.refl _ _).alloc (Nat.le_refl _) _).alloc (by simp) _
theorem lawW_size (w : World) (dim : Int) (o : Option Addr) (n cap : Nat) (re : Bool) (oa : Option Addr) (la ca : Nat) (rb : Int) :
    (lawW w dim o n cap re oa la ca rb).heap.size = w.heap.size + 1 + 1 := by simp
theorem lawW_cells {w w1 : World} {dim : Int} {o : Option Addr} {n cap : Nat} {re : Bool} {oa : Option Addr} {la ca : Nat} {rb : Int}
    (hb : Below (lawW w dim o n cap re oa la ca rb).heap.size (lawW w dim o n cap re oa la ca rb) w1) :
    Below w.heap.size w w1 ∧ ((w1.cell? ⟨w.heap.size, 0, none⟩ = some (.int .i64 dim) ∧ w1.cell? ⟨w.heap.size, 1, none⟩ = some (.slice o n cap)) ∧
    (w1.cell? ⟨w.heap.size + 1, 0, none⟩ = some (.bool re) ∧ w1.cell? ⟨w.heap.size + 1, 1, none⟩ = some (.slice oa la ca) ∧ w1.cell? ⟨w.heap.size + 1, 2, none⟩ = some (.int .i64 rb))) := by
  rw [lawW_size] at hb
  have hb0 := (lawW_below ..).trans (hb.mono (by omega : w.heap.size ≤ w.heap.size + 1 + 1))
  have B1 : Blk (lawW w dim o n cap re oa la ca rb) w.heap.size #[.int .i64 dim, .slice o n cap] 29 := (Blk.new w _ _).alloc _
  have B2 : Blk (lawW w dim o n cap re oa la ca rb) (w.heap.size + 1) #[.bool re, .slice oa la ca, .int .i64 rb] 31 := by
    have := Blk.new (w.alloc (.cells #[.int .i64 dim, .slice o n cap] 29)) #[.bool re, .slice oa la ca, .int .i64 rb] 31
    rwa [World.size_alloc] at this
  have C1 := (B1.below hb (by omega))
  have C2 := (B2.below hb (by omega))
  exact ⟨hb0, ⟨(C1.cell 0).trans rfl, (C1.cell 1).trans rfl⟩, ⟨(C2.cell 0).trans rfl, (C2.cell 1).trans rfl, (C2.cell 2).trans rfl⟩⟩

/-- A weight or the denominator is too great, as the law reckons it. -/
def greatB (den : Int) (ws : List Int) : Bool := decide (4611686018427387904 < den) || ws.any fun z => decide (4611686018427387904 < z) || decide (z < -4611686018427387904)
theorem greatB_nil (den : Int) : greatB den [] = decide (4611686018427387904 < den) := by simp [greatB]
theorem greatB_succ (den : Int) {ws : List Int} {k : Nat} (h : k < ws.length) : greatB den (ws.take (k + 1)) = (greatB den (ws.take k) || (decide (4611686018427387904 < ws[k]) || decide (ws[k] < -4611686018427387904))) := by
  rw [List.take_succ_eq_append_getElem h, greatB, List.any_append, greatB]
  simp [Bool.or_assoc]
theorem greatB_ok {den : Int} {ws : List Int} (h : 1 ≤ den) : greatB den ws = !okB den ws := by
  have h1 : ∀ z : Int, (decide (4611686018427387904 < z) || decide (z < -4611686018427387904)) = !toldB z := fun z => by
    unfold toldB
    by_cases h1 : z ≤ 4611686018427387904 <;> by_cases h2 : -4611686018427387904 ≤ z
    · rw [decide_eq_true h1, decide_eq_true h2, decide_eq_false (by omega), decide_eq_false (by omega)]; rfl
    · rw [decide_eq_true h1, decide_eq_false h2, decide_eq_false (by omega), decide_eq_true (by omega)]; rfl
    · rw [decide_eq_false h1, decide_eq_true h2, decide_eq_true (by omega)]; rfl
    · omega
  have h2 : decide (4611686018427387904 < den) = !toldB den := by
    rw [← h1, decide_eq_false (show ¬ den < -4611686018427387904 by omega), Bool.or_false]
  unfold greatB okB
  rw [h2, Bool.not_and]
  congr 1
  rw [List.not_all_eq_any_not]
  congr 1
  funext z
  exact h1 z
/-- Few rows of few numbers. -/
theorem wide_len {rs : List RowZ} (h : wideB rs = true) : rs.length ≤ 60 ∧ ∀ r ∈ rs, r.a.length ≤ 600 := by
  unfold wideB at h
  rw [Bool.and_eq_true, decide_eq_true_eq, decide_eq_true_eq] at h
  exact ⟨h.1, fun r hr => Nat.le_trans (manyZ_mem hr) h.2⟩

set_option maxRecDepth 100000 in
set_option maxHeartbeats 4000000 in
theorem lawChk_wide (v ra fw : Value) (dim den : Int) (rs : List RowZ) (r : RowZ) (ws : List Int) (a : Nat → Addr) (w : World) (he : ErrW w a) (hv : RowsAt w v rs) (hr : SliceI w ra r.a) (hf : SliceI w fw ws) (hl : rs.length ≤ 140737488355328) (hM0 : ∀ r ∈ rs, r.a.length ≤ 140737488355328) (h : wideB rs = false) :
    Calls Tryz.prog 4 #[.agg #[.int .i64 dim, v], .agg #[.bool r.eq, ra, .int .i64 r.b], fw, .int .i64 den] w fun e w' => e = .returned (.bool true) ∧ Below w.heap.size w w' := by
  obtain ⟨of, cf, e0, q0⟩ := hf
  have hf : SliceI w fw ws := ⟨of, cf, e0, q0⟩
  obtain ⟨oa, ca, e1, q1⟩ := hr
  have hr : SliceI w ra r.a := ⟨oa, ca, e1, q1⟩
  obtain ⟨o, cap, e2, q2⟩ := hv
  have hv : RowsAt w v rs := ⟨o, cap, e2, q2⟩
  clear q0 q1 q2
  subst e0 e1 e2
  have HV := Lib.hid hv
  have HR := Lib.hid hr
  have HF := Lib.hid hf
  have HE := Lib.hid he
  have hb2 := lawW_below w dim o rs.length cap r.eq oa r.a.length ca r.b
  have HTW := Lib.hid (two_any a _ (he.below hb2 (Nat.le_refl _)))
  have HWI := Lib.hid (fun w1 (hb : Below w.heap.size w w1) => wide_any _ dim rs w1 (hv.below hb (Nat.le_refl _)) hl hM0)
  have HFF := Lib.hid (fun (w1 : World) (hb : Below (lawW w dim o rs.length cap r.eq oa r.a.length ca r.b).heap.size (lawW w dim o rs.length cap r.eq oa r.a.length ca r.b) w1) => (Lib.hid (lawW_cells hb) : Hid (Below w.heap.size w w1 ∧ ((w1.cell? ⟨w.heap.size, 0, none⟩ = some (.int .i64 dim) ∧ w1.cell? ⟨w.heap.size, 1, none⟩ = some (.slice o rs.length cap)) ∧ (w1.cell? ⟨w.heap.size + 1, 0, none⟩ = some (.bool r.eq) ∧ w1.cell? ⟨w.heap.size + 1, 1, none⟩ = some (.slice oa r.a.length ca) ∧ w1.cell? ⟨w.heap.size + 1, 2, none⟩ = some (.int .i64 r.b))))))
  have HWB := Lib.hid h
  clear h
  obtain ⟨n, hn⟩ : ∃ n, rs.length = n := ⟨_, rfl⟩
  obtain ⟨la, hla⟩ : ∃ n, r.a.length = n := ⟨_, rfl⟩
  obtain ⟨m, hm⟩ : ∃ n, ws.length = n := ⟨_, rfl⟩
  rw [hn, hla] at HFF HTW
  rw [hla] at HR
  rw [hm] at HF
  rw [hn] at HV HWI
  rw [hn, hla, hm]
  have HN := Lib.hid hn
  have HLA := Lib.hid hla
  have HLM := Lib.hid hm
  clear he hv hr hf hb2 hn hla hm hl hM0
  go_enter Tryz.func4, Tryz.ntmps4
  go_wp2_with fail
  refine HTW.out.mono ?_
  rintro e1 w1 ⟨rfl, hb1⟩
  obtain ⟨hbw, ⟨p0, p1⟩, ⟨x0, x1, x2⟩⟩ := (HFF.out w1 hb1).out
  have HB1 := Lib.hid hb1
  have HW1 := Lib.hid (HWI.out w1 hbw)
  rw [HWB.out] at HW1
  clear hb1 hbw HTW
  go_wp2_with fail
  refine HW1.out.mono ?_
  rintro e1 w2 ⟨rfl, hb2⟩
  have HB2 := Lib.hid (HB1.out.trans (hb2.mono HB1.out.size))
  clear p0 p1 x0 x1 x2
  obtain ⟨hbw, ⟨p0, p1⟩, ⟨x0, x1, x2⟩⟩ := (HFF.out w2 HB2.out).out
  have HBW2 := Lib.hid hbw
  clear hbw hb2 HW1
  go_wp2_with fail
  go_ret
  exact ⟨rfl, HBW2.out⟩
set_option maxRecDepth 100000 in
set_option maxHeartbeats 4000000 in
theorem lawChk_long (v ra fw : Value) (dim den : Int) (rs : List RowZ) (r : RowZ) (ws : List Int) (a : Nat → Addr) (w : World) (he : ErrW w a) (hv : RowsAt w v rs) (hr : SliceI w ra r.a) (hf : SliceI w fw ws) (hl : rs.length ≤ 140737488355328) (hM0 : ∀ r ∈ rs, r.a.length ≤ 140737488355328) (h : wideB rs = true) (h1 : 100 < r.a.length) :
    Calls Tryz.prog 4 #[.agg #[.int .i64 dim, v], .agg #[.bool r.eq, ra, .int .i64 r.b], fw, .int .i64 den] w fun e w' => e = .returned (.bool true) ∧ Below w.heap.size w w' := by
  obtain ⟨of, cf, e0, q0⟩ := hf
  have hf : SliceI w fw ws := ⟨of, cf, e0, q0⟩
  obtain ⟨oa, ca, e1, q1⟩ := hr
  have hr : SliceI w ra r.a := ⟨oa, ca, e1, q1⟩
  obtain ⟨o, cap, e2, q2⟩ := hv
  have hv : RowsAt w v rs := ⟨o, cap, e2, q2⟩
  clear q0 q1 q2
  subst e0 e1 e2
  have HV := Lib.hid hv
  have HR := Lib.hid hr
  have HF := Lib.hid hf
  have HE := Lib.hid he
  have hb2 := lawW_below w dim o rs.length cap r.eq oa r.a.length ca r.b
  have HTW := Lib.hid (two_any a _ (he.below hb2 (Nat.le_refl _)))
  have HWI := Lib.hid (fun w1 (hb : Below w.heap.size w w1) => wide_any _ dim rs w1 (hv.below hb (Nat.le_refl _)) hl hM0)
  have HFF := Lib.hid (fun (w1 : World) (hb : Below (lawW w dim o rs.length cap r.eq oa r.a.length ca r.b).heap.size (lawW w dim o rs.length cap r.eq oa r.a.length ca r.b) w1) => (Lib.hid (lawW_cells hb) : Hid (Below w.heap.size w w1 ∧ ((w1.cell? ⟨w.heap.size, 0, none⟩ = some (.int .i64 dim) ∧ w1.cell? ⟨w.heap.size, 1, none⟩ = some (.slice o rs.length cap)) ∧ (w1.cell? ⟨w.heap.size + 1, 0, none⟩ = some (.bool r.eq) ∧ w1.cell? ⟨w.heap.size + 1, 1, none⟩ = some (.slice oa r.a.length ca) ∧ w1.cell? ⟨w.heap.size + 1, 2, none⟩ = some (.int .i64 r.b))))))
  have HWB := Lib.hid h
  have hd1 : decide (100 < (r.a.length : Int)) = true := by simp; omega
  clear h h1
  obtain ⟨n, hn⟩ : ∃ n, rs.length = n := ⟨_, rfl⟩
  obtain ⟨la, hla⟩ : ∃ n, r.a.length = n := ⟨_, rfl⟩
  obtain ⟨m, hm⟩ : ∃ n, ws.length = n := ⟨_, rfl⟩
  rw [hn, hla] at HFF HTW
  rw [hla] at HR
  rw [hm] at HF
  rw [hn] at HV HWI
  rw [hla] at hd1
  rw [hn, hla, hm]
  have HN := Lib.hid hn
  have HLA := Lib.hid hla
  have HLM := Lib.hid hm
  clear he hv hr hf hb2 hn hla hm hl hM0
  go_enter Tryz.func4, Tryz.ntmps4
  go_wp2_with fail
  refine HTW.out.mono ?_
  rintro e1 w1 ⟨rfl, hb1⟩
  obtain ⟨hbw, ⟨p0, p1⟩, ⟨x0, x1, x2⟩⟩ := (HFF.out w1 hb1).out
  have HB1 := Lib.hid hb1
  have HW1 := Lib.hid (HWI.out w1 hbw)
  rw [HWB.out] at HW1
  clear hb1 hbw HTW
  go_wp2_with fail
  refine HW1.out.mono ?_
  rintro e1 w2 ⟨rfl, hb2⟩
  have HB2 := Lib.hid (HB1.out.trans (hb2.mono HB1.out.size))
  clear p0 p1 x0 x1 x2
  obtain ⟨hbw, ⟨p0, p1⟩, ⟨x0, x1, x2⟩⟩ := (HFF.out w2 HB2.out).out
  have HBW2 := Lib.hid hbw
  clear hbw hb2 HW1
  go_wp2_with fail
  go_ret
  exact ⟨rfl, HBW2.out⟩
set_option maxRecDepth 100000 in
set_option maxHeartbeats 4000000 in
theorem lawChk_many (v ra fw : Value) (dim den : Int) (rs : List RowZ) (r : RowZ) (ws : List Int) (a : Nat → Addr) (w : World) (he : ErrW w a) (hv : RowsAt w v rs) (hr : SliceI w ra r.a) (hf : SliceI w fw ws) (hl : rs.length ≤ 140737488355328) (hM0 : ∀ r ∈ rs, r.a.length ≤ 140737488355328) (h : wideB rs = true) (h1 : ¬ 100 < r.a.length) (h2 : 100 < ws.length) :
    Calls Tryz.prog 4 #[.agg #[.int .i64 dim, v], .agg #[.bool r.eq, ra, .int .i64 r.b], fw, .int .i64 den] w fun e w' => e = .returned (.bool true) ∧ Below w.heap.size w w' := by
  obtain ⟨of, cf, e0, q0⟩ := hf
  have hf : SliceI w fw ws := ⟨of, cf, e0, q0⟩
  obtain ⟨oa, ca, e1, q1⟩ := hr
  have hr : SliceI w ra r.a := ⟨oa, ca, e1, q1⟩
  obtain ⟨o, cap, e2, q2⟩ := hv
  have hv : RowsAt w v rs := ⟨o, cap, e2, q2⟩
  clear q0 q1 q2
  subst e0 e1 e2
  have HV := Lib.hid hv
  have HR := Lib.hid hr
  have HF := Lib.hid hf
  have HE := Lib.hid he
  have hb2 := lawW_below w dim o rs.length cap r.eq oa r.a.length ca r.b
  have HTW := Lib.hid (two_any a _ (he.below hb2 (Nat.le_refl _)))
  have HWI := Lib.hid (fun w1 (hb : Below w.heap.size w w1) => wide_any _ dim rs w1 (hv.below hb (Nat.le_refl _)) hl hM0)
  have HFF := Lib.hid (fun (w1 : World) (hb : Below (lawW w dim o rs.length cap r.eq oa r.a.length ca r.b).heap.size (lawW w dim o rs.length cap r.eq oa r.a.length ca r.b) w1) => (Lib.hid (lawW_cells hb) : Hid (Below w.heap.size w w1 ∧ ((w1.cell? ⟨w.heap.size, 0, none⟩ = some (.int .i64 dim) ∧ w1.cell? ⟨w.heap.size, 1, none⟩ = some (.slice o rs.length cap)) ∧ (w1.cell? ⟨w.heap.size + 1, 0, none⟩ = some (.bool r.eq) ∧ w1.cell? ⟨w.heap.size + 1, 1, none⟩ = some (.slice oa r.a.length ca) ∧ w1.cell? ⟨w.heap.size + 1, 2, none⟩ = some (.int .i64 r.b))))))
  have HWB := Lib.hid h
  have hd1 : decide (100 < (r.a.length : Int)) = false := by simp; omega
  have hd2 : decide (100 < (ws.length : Int)) = true := by simp; omega
  clear h h1 h2
  obtain ⟨n, hn⟩ : ∃ n, rs.length = n := ⟨_, rfl⟩
  obtain ⟨la, hla⟩ : ∃ n, r.a.length = n := ⟨_, rfl⟩
  obtain ⟨m, hm⟩ : ∃ n, ws.length = n := ⟨_, rfl⟩
  rw [hn, hla] at HFF HTW
  rw [hla] at HR
  rw [hm] at HF
  rw [hn] at HV HWI
  rw [hla] at hd1
  rw [hm] at hd2
  rw [hn, hla, hm]
  have HN := Lib.hid hn
  have HLA := Lib.hid hla
  have HLM := Lib.hid hm
  clear he hv hr hf hb2 hn hla hm hl hM0
  go_enter Tryz.func4, Tryz.ntmps4
  go_wp2_with fail
  refine HTW.out.mono ?_
  rintro e1 w1 ⟨rfl, hb1⟩
  obtain ⟨hbw, ⟨p0, p1⟩, ⟨x0, x1, x2⟩⟩ := (HFF.out w1 hb1).out
  have HB1 := Lib.hid hb1
  have HW1 := Lib.hid (HWI.out w1 hbw)
  rw [HWB.out] at HW1
  clear hb1 hbw HTW
  go_wp2_with fail
  refine HW1.out.mono ?_
  rintro e1 w2 ⟨rfl, hb2⟩
  have HB2 := Lib.hid (HB1.out.trans (hb2.mono HB1.out.size))
  clear p0 p1 x0 x1 x2
  obtain ⟨hbw, ⟨p0, p1⟩, ⟨x0, x1, x2⟩⟩ := (HFF.out w2 HB2.out).out
  have HBW2 := Lib.hid hbw
  clear hbw hb2 HW1
  go_wp2_with fail
  go_ret
  exact ⟨rfl, HBW2.out⟩
end Go.Proofs.YtochcofoknfjfaaGreatDoor
