/- Walks of the reference's small functions: Large, SameInts, gcd. Words on polyhedra as data; walks: wide. -/
import Derived.Test.YtggoncneinlpgaaGreatDoorRowF
namespace Go.Proofs.YtggoncneinlpgaaGreatDoor
open Go Go.RowKit Nt

def bigB (z : Int) : Bool := decide (2147483648 < z) || decide (z < -2147483648)
def largeB (zs : List Int) : Bool := zs.any bigB

set_option maxRecDepth 100000 in
set_option maxHeartbeats 1000000 in
theorem rlarge_any (v : Value) (zs : List Int) (w : World) (hv : SliceI w v zs) (hl : zs.length ≤ 1000000) :
    Calls Tryz.prog 7 #[v] w fun e w' => e = .returned (.bool (largeB zs)) ∧ w' = w := by
  obtain ⟨o, cap, rfl, hc⟩ := hv
  obtain ⟨n, hn⟩ : ∃ n, zs.length = n := ⟨_, rfl⟩
  rw [hn] at hl ⊢
  have HN := Lib.hid hn
  have HC := Lib.hid hc
  clear hn hc
  go_enter Tryz.func7, Tryz.ntmps7
  go_wp2
  go_loop [3] (fun i => ∃ k : Nat, k ≤ n ∧ i = .int .i64 k ∧ Hid (largeB (zs.take k) = false)) (fun i => n - (intOf i).toNat)
  case atStart => exact ⟨0, Nat.zero_le _, rfl, rfl⟩
  case round =>
    obtain ⟨k, hk, rfl, hf⟩ := hrel
    by_cases hlt : k < n
    · have hk' : k < zs.length := by have := HN.out; omega
      obtain ⟨b, off, rfl, hbl, hcs⟩ := HC.out (by intro e; rw [e] at hk'; simp at hk')
      have hcell : w.cell? ⟨b, off + k, none⟩ = some (.int .i64 zs[k]) := hcs k hk'
      have HT := Lib.hid (show largeB (zs.take (k + 1)) = bigB zs[k] by
        rw [List.take_succ_eq_append_getElem hk', largeB, List.any_append]
        have := hf.out
        unfold largeB at this
        rw [this]
        simp)
      have HY : bigB zs[k] = true → Hid (largeB zs = true) := fun h => by
        show largeB zs = true
        unfold largeB
        rw [List.any_eq_true]
        exact ⟨_, List.getElem_mem hk', h⟩
      obtain ⟨z, hz⟩ : ∃ z, zs[k] = z := ⟨_, rfl⟩
      rw [hz] at hcell HT HY
      clear hz hcs
      by_cases hb : bigB z = true
      · have HR := HY hb
        clear HT HY
        unfold bigB at hb
        by_cases h1 : 2147483648 < z
        · clear hb
          go_wp2
          go_ret
          exact ⟨by rw [HR.out]; rfl, rfl⟩
        · have h2 : z < -2147483648 := by simpa [h1] using hb
          have h1' : decide (2147483648 < z) = false := by simp [h1]
          clear hb h1
          go_wp2
          go_ret
          exact ⟨by rw [HR.out]; rfl, rfl⟩
      · rw [Bool.not_eq_true] at hb
        have HF := Lib.hid (HT.out.trans hb)
        clear HT HY
        have h1 : decide (2147483648 < z) = false := by unfold bigB at hb; simp at hb; simp; omega
        have h2 : decide (z < -2147483648) = false := by unfold bigB at hb; simp at hb; simp; omega
        clear hb
        go_wp2
        go_round
        case rel => exact ⟨k + 1, by omega, by go_num, HF⟩
        case measure => simp [intOf]; omega
    · obtain rfl : k = n := by omega
      have HF := Lib.hid (show largeB zs = false by have := hf.out; have h := HN.out; rwa [List.take_of_length_le (by omega)] at this)
      go_wp2
      go_ret
      exact ⟨by rw [HF.out]; rfl, rfl⟩

set_option maxRecDepth 100000 in
set_option maxHeartbeats 1000000 in
theorem rsame_any (v u : Value) (xs ys : List Int) (w : World) (hv : SliceI w v xs) (hu : SliceI w u ys) (hl : xs.length ≤ 1000000) :
    Calls Tryz.prog 24 #[v, u] w fun e w' => e = .returned (.bool (decide (xs = ys))) ∧ ∃ q, w' = w.drewN q := by
  obtain ⟨o, cap, rfl, hc⟩ := hv
  obtain ⟨o', cap', rfl, hc'⟩ := hu
  by_cases hlen : xs.length = ys.length
  · obtain ⟨n, hn⟩ : ∃ n, xs.length = n := ⟨_, rfl⟩
    rw [← hlen, hn]
    rw [hn] at hl hlen
    have HN := Lib.hid hn
    have HN' := Lib.hid hlen
    have HC := Lib.hid hc
    have HC' := Lib.hid hc'
    clear hn hc hlen hc'
    go_enter Tryz.func24, Tryz.ntmps24
    go_wp2
    go_loopw [5] (fun i wr => ∃ k q : Nat, k ≤ n ∧ i = .int .i64 k ∧ Hid (∀ j (h : j < xs.length) (h' : j < ys.length), j < k → xs[j] = ys[j]) ∧ wr = w.drewN q) (fun i _ => n - (intOf i).toNat)
    case atStart => exact ⟨0, 0, Nat.zero_le _, rfl, fun j _ _ h => by omega, rfl⟩
    case round =>
      obtain ⟨k, q, hk, rfl, hf, rfl⟩ := hrel
      by_cases hlt : k < n
      · have hkx : k < xs.length := by have := HN.out; omega
        have hky : k < ys.length := by have := HN'.out; omega
        obtain ⟨b, off, rfl, hbl, hcs⟩ := HC.out (by intro e; rw [e] at hkx; simp at hkx)
        obtain ⟨b', off', rfl, hbl', hcs'⟩ := HC'.out (by intro e; rw [e] at hky; simp at hky)
        have hcell : w.cell? ⟨b, off + k, none⟩ = some (.int .i64 xs[k]) := hcs k hkx
        have hcell' : w.cell? ⟨b', off' + k, none⟩ = some (.int .i64 ys[k]) := hcs' k hky
        obtain ⟨x, hx⟩ : ∃ x, xs[k] = x := ⟨_, rfl⟩
        obtain ⟨y, hy⟩ : ∃ y, ys[k] = y := ⟨_, rfl⟩
        rw [hx] at hcell
        rw [hy] at hcell'
        have HX := Lib.hid hx
        have HY := Lib.hid hy
        clear hx hy hcs hcs'
        by_cases hxy : x = y
        · subst hxy
          go_wp2_with fail
          go_quiet (fail)
          go_wp2
          go_roundw
          case rel =>
            refine ⟨k + 1, _, by omega, by go_num, fun j h h' hj => ?_, by rfl⟩
            by_cases e : j = k
            · subst e; rw [HX.out, HY.out]
            · exact hf.out j h h' (by omega)
          case measure => simp [intOf]; omega
        · have hne : (x != y) = true := by simpa using hxy
          have HR := Lib.hid (show decide (xs = ys) = false by
            simp only [decide_eq_false_iff_not]
            intro e
            subst e
            exact hxy (HX.out.symm.trans HY.out))
          clear hxy
          go_wp2_with fail
          go_quiet (fail)
          go_wp2
          go_ret
          exact ⟨by rw [HR.out]; rfl, _, by simp only [World.drewN_drewN]; rfl⟩
      · obtain rfl : k = n := by omega
        have HR := Lib.hid (show decide (xs = ys) = true by
          simp only [decide_eq_true_eq]
          have h1 := HN.out
          have h2 := HN'.out
          exact List.ext_getElem (by omega) fun j h h' => hf.out j h h' (by omega))
        go_wp2
        go_ret
        exact ⟨by rw [HR.out]; rfl, _, rfl⟩
  · have HR := Lib.hid (show decide (xs = ys) = false by
      simp only [decide_eq_false_iff_not]
      intro e
      exact hlen (congrArg _ e))
    have hne : ((xs.length : Int) != (ys.length : Int)) = true := by simp; omega
    clear hc hc' hlen
    generalize xs.length = m at *
    generalize ys.length = n at *
    go_enter Tryz.func24, Tryz.ntmps24
    go_wp2
    go_ret
    exact ⟨by rw [HR.out]; rfl, 0, rfl⟩

end Go.Proofs.YtggoncneinlpgaaGreatDoor
namespace Go.Proofs.YtggoncneinlpgaaGreatDoor
open Go Go.RowKit Nt

/-- A row of a polyhedron, as data. -/
structure RowZ where
  eq : Bool
  a : List Int
  b : Int

/-- The slice value v holds the rows rs. -/
def RowsAt (w : World) (v : Value) (rs : List RowZ) : Prop :=
  ∃ o cap, v = .slice o rs.length cap ∧ (rs ≠ [] → ∃ b off, o = some ⟨b, off, none⟩ ∧ b < w.heap.size ∧ ∀ i (h : i < rs.length), ∃ av, w.cell? ⟨b, off + i * 3, none⟩ = some (.bool rs[i].eq) ∧ w.cell? ⟨b, off + i * 3 + 1, none⟩ = some av ∧ SliceI w av rs[i].a ∧ w.cell? ⟨b, off + i * 3 + 2, none⟩ = some (.int .i64 rs[i].b))

theorem RowsAt.below {w w' : World} {v : Value} {rs : List RowZ} (h : RowsAt w v rs) {B1 : Nat} (hb : Below B1 w w') (hB : w.heap.size ≤ B1) : RowsAt w' v rs := by
  obtain ⟨o, cap, rfl, h⟩ := h
  refine ⟨o, cap, rfl, fun hne => ?_⟩
  obtain ⟨b, off, rfl, hlt, hc⟩ := h hne
  refine ⟨b, off, rfl, Nat.lt_of_lt_of_le hlt hb.size, fun i hi => ?_⟩
  obtain ⟨av, h1, h2, h3, h4⟩ := hc i hi
  exact ⟨av, (hb.cell (p := ⟨b, off + i * 3, none⟩) (by simp; omega)).trans h1, (hb.cell (p := ⟨b, off + i * 3 + 1, none⟩) (by simp; omega)).trans h2, h3.below hb hB, (hb.cell (p := ⟨b, off + i * 3 + 2, none⟩) (by simp; omega)).trans h4⟩

/-- How many numbers are in the rows. -/
def manyZ (rs : List RowZ) : Nat := rs.foldl (fun n r => n + r.a.length) 0
theorem manyZ_snoc (rs : List RowZ) (r : RowZ) : manyZ (rs ++ [r]) = manyZ rs + r.a.length := by simp [manyZ, List.foldl_append]

theorem foldl_many (l : List RowZ) (r : RowZ) : ∀ a : Nat, a ≤ l.foldl (fun n r => n + r.a.length) a ∧ (r ∈ l → r.a.length ≤ l.foldl (fun n r => n + r.a.length) a) := by
  induction l with
  | nil => intro a; simp
  | cons x l ih =>
    intro a
    obtain ⟨h1, h2⟩ := ih (a + x.a.length)
    simp only [List.foldl_cons]
    refine ⟨by omega, fun hm => ?_⟩
    rcases List.mem_cons.1 hm with rfl | hm
    · omega
    · exact h2 hm
theorem manyZ_mem {rs : List RowZ} {r : RowZ} (h : r ∈ rs) : r.a.length ≤ manyZ rs := (foldl_many rs r 0).2 h
theorem manyZ_bound {rs : List RowZ} {M : Nat} (h : ∀ r ∈ rs, r.a.length ≤ M) : manyZ rs ≤ rs.length * M := by
  suffices H : ∀ (l : List RowZ) (a : Nat), (∀ r ∈ l, r.a.length ≤ M) → l.foldl (fun n r => n + r.a.length) a ≤ a + l.length * M by
    have := H rs 0 h
    unfold manyZ
    omega
  intro l
  induction l with
  | nil => intro a _; simp
  | cons x l ih =>
    intro a hl
    have h1 := ih (a + x.a.length) (fun r hr => hl r (List.mem_cons_of_mem _ hr))
    have h2 := hl x (List.mem_cons_self ..)
    simp only [List.foldl_cons, List.length_cons, Nat.add_mul, Nat.one_mul]
    omega
/-- Few rows, of few numbers. -/
def wideB (rs : List RowZ) : Bool := decide (rs.length ≤ 60) && decide (manyZ rs ≤ 600)

end Go.Proofs.YtggoncneinlpgaaGreatDoor
