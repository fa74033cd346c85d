/- Walks of package math/big's smallest functions: NewInt, Sign, nat.make, nat.setWord, nat.norm. -/
import Derived.Test.YtggoncneinlpgaaGreatDoorBase
import Derived.WalkLawsBesides
import Derived.WalkSpells
import Derived.Handy
import Derived.Outline
import Derived.BigQuiet
import Derived.Deep.QuietTactic
import Derived.Lib.Hide
import Derived.Laws.MakeOwn
namespace Go.Proofs.YtggoncneinlpgaaGreatDoor
open Go Go.RowKit Nt

theorem intF_zero {w : World} {b : Nat} (h : Blk w b #[.bool false, .slice none 0 0] 62) : IntF w b 0 [b] :=
  ⟨_, [], h, .inl ⟨rfl, rfl, by simp [dg_zero]⟩, rfl⟩
theorem intF_one {w : World} {b a : Nat} {n : Int} {u : Int} {neg : Bool} (hn : n ≠ 0) (hu : u = n.natAbs) (hl : n.natAbs < B) (hs : neg = decide (n < 0)) (h : Blk w b #[.bool neg, .slice (some ⟨a, 0, none⟩) 1 1] 62)
    (ha : Blk w a #[.int .u64 u] 80) : IntF w b n [b, a] := by
  have hd : dg n.natAbs = [n.natAbs] := dg_one (by omega) hl
  subst hs
  refine ⟨_, [a], h, .inr ⟨a, 1, _, ?_, rfl, ?_, by omega, rfl, ha, ?_⟩, rfl⟩
  · rw [hd]; rfl
  · rw [hd]; simp
  · rw [hd]
    intro i hi
    have : i = 0 := by simpa using hi
    subst this
    simp [hu]

/-- A new number has been made; nothing that was there has turned. -/
def IntNew (w : World) (z : Int) (e : Ending) (w' : World) : Prop :=
  ∃ b S, e = .returned (.pointer (some ⟨b, 0, none⟩)) ∧ IntF w' b z S ∧ (∀ k, k ∈ S → w.heap.size ≤ k) ∧ Below w.heap.size w w'

set_option maxHeartbeats 400000 in
/-- math/big.NewInt: a new number. -/
theorem newInt_any (n : Int) (w : World) (h0 : -9223372036854775808 ≤ n) (h1 : n ≤ 9223372036854775807) :
    Calls Tryz.prog 26 #[.int .i64 n] w (IntNew w n) := by
  by_cases hz : n = 0
  · subst hz
    go_enter Tryz.func26, Tryz.ntmps26
    go_wp2
    go_ret
    exact ⟨_, _, rfl, intF_zero (Blk.new _ _ _), by simp, (Below.refl _ _).alloc (Nat.le_refl _) _⟩
  · by_cases hp : 0 < n
    · go_enter Tryz.func26, Tryz.ntmps26
      go_wp2
      go_ret
      refine ⟨_, _, rfl, intF_one hz ?_ ?_ rfl (by simpa using Blk.new (w.alloc _) _ _) ((Blk.new w _ _).alloc _), by simp, ?_⟩
      · omega
      · rw [B_eq]; omega
      · exact ((Below.refl _ _).alloc (Nat.le_refl _) _).alloc (by simp) _
    · have hn : n < 0 := by omega
      go_enter Tryz.func26, Tryz.ntmps26
      go_wp2
      go_ret
      refine ⟨_, _, rfl, intF_one (neg := true) hz ?_ ?_ (by simp [hn]) (by simpa using Blk.new (w.alloc _) _ _) ((Blk.new w _ _).alloc _), by simp, ?_⟩
      · rw [IntKind.wrap_u64, IntKind.wrap_u64]; omega
      · rw [B_eq]; omega
      · exact ((Below.refl _ _).alloc (Nat.le_refl _) _).alloc (by simp) _

/-- The two cells of a number's struct. -/
theorem IntF.cells {w : World} {b : Nat} {z : Int} {S : List Nat} (h : IntF w b z S) :
    ∃ o cap T, w.cell? ⟨b, 0, none⟩ = some (.bool (decide (z < 0))) ∧ w.cell? ⟨b, 1, none⟩ = some (.slice o (dg z.natAbs).length cap) ∧ Wd w (.slice o (dg z.natAbs).length cap) (dg z.natAbs) T ∧ S = b :: T ∧
      Blk w b #[.bool (decide (z < 0)), .slice o (dg z.natAbs).length cap] 62 := by
  obtain ⟨v, T, hb, hw, rfl⟩ := h
  rcases hw with ⟨rfl, rfl, hd⟩ | ⟨a, cap, cs, rfl, rfl, h3, h4, h5, hb', hd⟩
  · refine ⟨none, 0, [], (hb.cell 0).trans rfl, ?_, ?_, rfl, ?_⟩
    · rw [hd]; exact (hb.cell 1).trans rfl
    · rw [hd]; exact .inl ⟨rfl, rfl, rfl⟩
    · rw [hd]; exact hb
  · exact ⟨some ⟨a, 0, none⟩, cap, [a], (hb.cell 0).trans rfl, (hb.cell 1).trans rfl, .inr ⟨a, cap, cs, rfl, rfl, h3, h4, h5, hb', hd⟩, rfl, hb⟩

theorem dg_len_zero {z : Int} : (dg z.natAbs).length = 0 ↔ z = 0 := by
  constructor
  · intro h
    have h1 : dg z.natAbs = [] := List.eq_nil_of_length_eq_zero h
    have h2 := nv_dg z.natAbs
    rw [h1] at h2
    simp only [nv] at h2
    omega
  · rintro rfl; simp [dg_zero]

set_option maxHeartbeats 400000 in
theorem sign_any (b : Nat) (z : Int) (S : List Nat) (w : World) (h : IntF w b z S) :
    Calls Tryz.prog 20 #[.pointer (some ⟨b, 0, none⟩)] w fun e w' => e = .returned (.int .i64 z.sign) ∧ w = w' := by
  obtain ⟨o, cap, T, hc0, hc1, _, _⟩ := h.cells
  have hl := @dg_len_zero z
  generalize (dg z.natAbs).length = l at hc1 hl
  clear h
  by_cases hz : z = 0
  · subst hz
    obtain rfl : l = 0 := hl.2 rfl
    clear hl
    go_enter Tryz.func20, Tryz.ntmps20
    go_wp2
    go_ret
    exact ⟨rfl, rfl⟩
  · have hl0 : ((l : Int) == 0) = false := by
      have : l ≠ 0 := fun e => hz (hl.1 e)
      simp; omega
    clear hl
    by_cases hn : z < 0
    · have hd : decide (z < 0) = true := by simp [hn]
      rw [hd] at hc0
      have HS := Lib.hid (Int.sign_eq_neg_one_of_neg hn)
      clear hn hd hz
      go_enter Tryz.func20, Tryz.ntmps20
      go_wp2
      go_ret
      exact ⟨by rw [HS.out]; rfl, rfl⟩
    · have hd : decide (z < 0) = false := by simp [hn]
      rw [hd] at hc0
      have HS := Lib.hid (Int.sign_eq_one_of_pos (a := z) (by omega))
      clear hn hd hz
      go_enter Tryz.func20, Tryz.ntmps20
      go_wp2
      go_ret
      exact ⟨by rw [HS.out]; rfl, rfl⟩

/-! ### nat.make -/
/-- A row of k words lies there; nothing old has turned. -/
def MakeRes (w : World) (S : List Nat) (k : Nat) (e : Ending) (w' : World) : Prop :=
  ∃ a cap cs, e = .returned (.slice (some ⟨a, 0, none⟩) k cap) ∧ k ≤ cap ∧ cap ≤ 4294967296 ∧ cs.size = cap ∧ Blk w' a cs 80 ∧ (a ∈ S ∨ w.heap.size ≤ a) ∧ Chg [] w w' ∧ (a ∈ S → w = w')

theorem infoW : (Tryz.prog.info? 80).map (fun i => (i.zero, i.size, i.bytes)) = some (some (.int .u64 0), 1, 8) := by kernel_rfl
theorem run_makeW (l c : Nat) (w : World) (hl : l ≤ c) (hc : c ≤ 4294967296) :
    (Instr.makeSlice 60 (.int .i64 l) (.int .i64 c)).run Tryz.prog w = .ok (.slice (some ⟨w.heap.size, 0, none⟩) l c) (w.alloc (.cells (madeCells #[.int .u64 0] c) 80)) := by
  obtain ⟨i, hi, hzz⟩ := Option.map_eq_some_iff.1 infoW
  simp only [Prod.mk.injEq] at hzz
  obtain ⟨hz, hs, hb⟩ := hzz
  have h := run_make (P := Tryz.prog) w 60 80 i (.int .u64 0) Tryz.underlying60 hi hz .i64 .i64 l c (by omega) (by omega) (by rw [hb]; omega) (by omega)
  simpa [hs, Value.cells] using h
theorem run_makeW1 (w : World) :
    (Instr.makeSlice 60 (.int .i64 1) (.int .i64 1)).run Tryz.prog w = .ok (.slice (some ⟨w.heap.size, 0, none⟩) 1 1) (w.alloc (.cells (madeCells #[.int .u64 0] 1) 80)) :=
  run_makeW 1 1 w (by omega) (by omega)

set_option maxHeartbeats 400000 in
theorem make_fits (o : Option Addr) (n cap k : Nat) (w : World) (hk : k ≤ cap) (hc : cap ≤ 4294967296) :
    Calls Tryz.prog 62 #[.slice o n cap, .int .i64 k] w fun e w' => e = .returned (.slice o k cap) ∧ w = w' := by
  have hc' : (cap : Int) ≤ 4294967296 := by omega
  go_enter Tryz.func62, Tryz.ntmps62
  go_wp2
  go_ret
  exact ⟨rfl, rfl⟩
set_option maxRecDepth 100000 in
set_option maxHeartbeats 400000 in
theorem make_new (o : Option Addr) (n cap k : Nat) (w : World) (hk : cap < k) (h1 : k ≤ 1000000) :
    Calls Tryz.prog 62 #[.slice o n cap, .int .i64 k] w fun e w' => ∃ c, k ≤ c ∧ c ≤ 4294967296 ∧ e = .returned (.slice (some ⟨w.heap.size, 0, none⟩) k c) ∧ w' = w.alloc (.cells (madeCells #[.int .u64 0] c) 80) := by
  by_cases hk1 : k = 1
  · subst hk1
    have hm := run_makeW1
    go_enter Tryz.func62, Tryz.ntmps62
    go_wp2
    go_ret
    exact ⟨1, by omega, by omega, rfl, rfl⟩
  · have hm := run_makeW k (k + 4) w (by omega) (by omega)
    have hb : ((k : Int) == 1) = false := by simp; omega
    rw [show ((k + 4 : Nat) : Int) = (k : Int) + 4 from by omega] at hm
    go_enter Tryz.func62, Tryz.ntmps62
    go_wp2
    go_ret
    exact ⟨k + 4, by omega, by omega, rfl, rfl⟩

theorem make_any (v : Value) (S : List Nat) (k : Nat) (w : World) (hs : Sto w v S) (hk0 : 1 ≤ k) (hk : k ≤ 1000000) :
    Calls Tryz.prog 62 #[v, .int .i64 k] w (MakeRes w S k) := by
  have fresh : ∀ (o : Option Addr) (n cap : Nat), cap < k → Calls Tryz.prog 62 #[.slice o n cap, .int .i64 k] w (MakeRes w S k) := by
    intro o n cap hc
    refine (make_new o n cap k w hc hk).mono ?_
    rintro e w' ⟨c, h1, h2, he, rfl⟩
    refine ⟨_, c, madeCells #[.int .u64 0] c, he, h1, h2, size_madeCells _ _, Blk.new _ _ _, .inr (Nat.le_refl _), (Chg.refl _ _).alloc _, fun ha => ?_⟩
    have := hs.lt _ ha
    omega
  rcases hs with ⟨rfl, rfl⟩ | ⟨a, n, cap, cs, rfl, rfl, h3, h4, h5, hb⟩
  · exact fresh none 0 0 (by omega)
  · by_cases hc : k ≤ cap
    · exact (make_fits (some ⟨a, 0, none⟩) n cap k w hc h4).mono fun e w' ⟨he, hw⟩ => by
        subst hw
        exact ⟨a, cap, cs, he, hc, h4, h5, hb, .inl (by simp), Chg.refl _ _, fun _ => rfl⟩
    · exact fresh _ n cap (by omega)

theorem Blk.of_set {w : World} {a i : Nat} {cs : Array Value} {t : TypeId} (h : Blk w a cs t) (u : Value) (hi : i < cs.size) :
    ∃ cs', Blk (w.setCell ⟨a, i, none⟩ u) a cs' t ∧ cs'.size = cs.size ∧ cs'[i]? = some u ∧ ∀ j, j ≠ i → cs'[j]? = cs[j]? :=
  ⟨_, h.set i u, by simp, by simp [hi], fun j hj => by simp [Array.getElem?_setIfInBounds]; intro e; omega⟩

theorem wd_one {w : World} {a cap x : Nat} {cs : Array Value} (hx : x ≠ 0) (hl : x < B) (h1 : 1 ≤ cap) (h2 : cap ≤ 4294967296) (h3 : cs.size = cap) (hb : Blk w a cs 80) (h : cs[0]? = some (.int .u64 x)) :
    Wd w (.slice (some ⟨a, 0, none⟩) 1 cap) (dg x) [a] := by
  have hd := dg_one hx hl
  refine .inr ⟨a, cap, cs, by rw [hd]; rfl, rfl, by rw [hd]; exact h1, h2, h3, hb, ?_⟩
  rw [hd]
  intro i hi
  have : i = 0 := by simpa using hi
  subst this
  simpa using h

theorem wd_nil {w : World} {v : Value} {S : List Nat} (h : Sto w v S) : ∃ o n cap, v = .slice o n cap ∧ Wd w (.slice o 0 cap) (dg 0) S := by
  rcases h with ⟨rfl, rfl⟩ | ⟨a, n, cap, cs, rfl, rfl, h3, h4, h5, hb⟩
  · exact ⟨none, 0, 0, rfl, .inl ⟨rfl, rfl, dg_zero⟩⟩
  · exact ⟨_, n, cap, rfl, .inr ⟨a, cap, cs, by rw [dg_zero]; rfl, rfl, by rw [dg_zero]; simp, h4, h5, hb, by rw [dg_zero]; intro i hi; simp at hi⟩⟩

theorem sto_bounds {w : World} {o : Option Addr} {n cap : Nat} {S : List Nat} (h : Sto w (.slice o n cap) S) : n ≤ cap ∧ cap ≤ 4294967296 := by
  rcases h with ⟨h, rfl⟩ | ⟨a, n', cap', cs, h, rfl, h3, h4, h5, hb⟩
  · cases h; omega
  · cases h; omega

set_option maxRecDepth 100000 in
set_option maxHeartbeats 400000 in
theorem setWord_any (v : Value) (S : List Nat) (x : Nat) (w : World) (hs : Sto w v S) (hx : x < 18446744073709551616) :
    Calls Tryz.prog 110 #[v, .int .u64 x] w (NatRes w S x) := by
  by_cases h0 : x = 0
  · subst h0
    obtain ⟨o, n, cap, rfl, hw⟩ := wd_nil hs
    have hb := sto_bounds hs
    go_enter Tryz.func110, Tryz.ntmps110
    go_wp2
    go_ret
    exact ⟨_, S, rfl, hw, fun k hk => .inl hk, Chg.refl _ _⟩
  · have hx0 : ((x : Int) == 0) = false := by simp; omega
    go_enter Tryz.func110, Tryz.ntmps110
    go_wp2_with fail
    refine (make_any v S 1 w hs (by omega) (by omega)).mono ?_
    rintro e w1 ⟨a, cap, cs, rfl, h1, h2, h3, hb, ha, hc, hq⟩
    have f0 := (hb.cell 0).trans (show cs[0]? = some (cs[0]'(by omega)) by simp)
    have g0 := hb.free 0
    obtain ⟨cs', hb', hs', hs0, _⟩ := hb.of_set (i := 0) (.int .u64 x) (by omega)
    go_wp2
    go_ret
    refine ⟨_, [a], rfl, wd_one h0 (by rw [B_eq]; omega) h1 h2 (hs'.trans h3) hb' hs0, ?_, ?_⟩
    · intro k hk
      simp at hk; subst hk; exact ha
    · exact (hc.mono (by simp)).setCell ha _

end Go.Proofs.YtggoncneinlpgaaGreatDoor
