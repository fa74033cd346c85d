/- How a polyhedron, a row and rows among the arguments are opened for the walks. -/
import Derived.Test.YtochcofoknfjfaaGreatDoorQ1
import Derived.Test.YtochcofoknfjfaaGreatDoorRP
import Derived.Deep.Strs
import Derived.Deep.Slices
namespace Go.Proofs.YtochcofoknfjfaaGreatDoor
open Go Go.ChangeShapes Go.WideShapes Go.ChangeAt Go.RowKit Go.Deep

instance : Inhabited RowZ := ⟨⟨false, [], 0⟩⟩
theorem add_plain' (b off i : Nat) : (⟨b, off, none⟩ : Addr).add i = ⟨b, off + i, none⟩ := by
  simp only [Addr.add]
  split
  · next h => subst h; rfl
  · rfl
theorem cellsB : Tryz.prog.cellsOf 4 = 1 := by kernel_rfl
theorem cellsS : Tryz.prog.cellsOf 22 = 1 := by kernel_rfl
theorem cellsR : Tryz.prog.cellsOf 31 = 3 := by kernel_rfl
theorem cellsRs : Tryz.prog.cellsOf 27 = 1 := by kernel_rfl
theorem cellsP : Tryz.prog.cellsOf 29 = 2 := by kernel_rfl
theorem bytesI : Tryz.prog.bytesOf 3 = 8 := by kernel_rfl
theorem bytesR : Tryz.prog.bytesOf 31 = 40 := by kernel_rfl

section
variable {H : Type} {enc : TypeId × Value → H} {W : World}

theorem wf64 {n : Int} (h : (Lit.int .i64 n).wf = true) : -9223372036854775808 ≤ n ∧ n ≤ 9223372036854775807 := bounds_i64 h
theorem weights_all {P : Program} {e : TypeId} {d : DataW H} {l : List (DataW H)} (h : d ∈ l) : ∀ k ∈ d.weights P e, k ∈ DataW.weightsAll P e l := by
  induction l with
  | nil => cases h
  | cons x l ih =>
    intro k hk
    simp only [DataW.weightsAll, List.mem_append]
    rcases List.mem_cons.1 h with rfl | h
    · exact .inl hk
    · exact .inr (ih h k hk)
/-- A slice of integers, by its cells. -/
theorem trod_intsI {fuel : Nat} {cs : List Value} {x : DataW H × List MemPlace} (h : DataW.trod enc Tryz.prog W 0 (fun _ => true) true fuel 22 cs = some x) (hlt : ∀ y ∈ x.2, y.block < W.heap.size) :
    ∃ v zs, cs = [v] ∧ SliceI W v zs ∧ I64 zs ∧ ∀ M, (∀ k ∈ x.1.weights Tryz.prog 22, k ≤ M) → zs.length * 8 ≤ M := by
  rcases open_ints Tryz.underlying22 Tryz.underlying3 cellsI h with ⟨rfl, rfl⟩ | ⟨a, len, cap, zs, rfl, _, hl, hm, hz, rfl, hcell, hwz⟩
  · exact ⟨_, [], rfl, ⟨none, 0, rfl, fun h => absurd rfl h⟩, fun z hz => by simp at hz, fun M _ => by simp⟩
  · simp only [if_true] at hz
    have hlen : (zs.take len).length = len := by rw [List.length_take]; omega
    refine ⟨_, zs.take len, rfl, ⟨some a, cap, by rw [hlen], fun hne => ?_⟩, fun z hz' => ?_, fun M hM => ?_⟩
    · have h0 : 0 < len := by
        rcases Nat.eq_zero_or_pos len with e | e
        · subst e; simp at hne
        · exact e
      obtain ⟨b, off, spot⟩ := a
      have hspot : spot = none := by simpa [Addr.add] using World.cell?_spot (hcell 0 (by omega))
      subst hspot
      have hbW : b < W.heap.size := hlt (.cell b off) (MemPlace.mem_row.2 ⟨0, by omega, by simp⟩)
      refine ⟨b, off, rfl, hbW, fun i hi => ?_⟩
      rw [hlen] at hi
      have hc := hcell i (by omega)
      rw [add_plain'] at hc
      rw [hc, List.getElem_take, List.getD_eq_getElem?_getD, List.getElem?_eq_getElem (by omega)]
      rfl
    · exact wf64 (hwz z (List.mem_of_mem_take hz'))
    · have := hM ((zs.take len).length * 8 + (zs.drop len).length * 8) (by simp [DataW.weights, Tryz.underlying22, bytesI, lits, Nat.add_mul])
      omega
set_option maxRecDepth 100000 in
/-- A row, by its cells. -/
theorem trod_rowZ {fuel : Nat} {cs : List Value} {x : DataW H × List MemPlace} (h : DataW.trod enc Tryz.prog W 0 (fun _ => true) true fuel 31 cs = some x) (hlt : ∀ y ∈ x.2, y.block < W.heap.size) :
    ∃ (r : RowZ) (av : Value), cs = [.bool r.eq, av, .int .i64 r.b] ∧ SliceI W av r.a ∧ ∀ M, (∀ k ∈ x.1.weights Tryz.prog 31, k ≤ M) → r.a.length * 8 ≤ M := by
  obtain ⟨y0, y1, y2, n, rfl, hl, h0, h1, h2⟩ := trod_struct3 Tryz.underlying31 h
  rw [cellsR] at hl
  match cs, hl with
  | [c0, c1, c2], _ =>
    simp only [cellsB, cellsS, cellsI, List.drop_zero, List.drop_succ_cons, List.take_succ_cons, List.take_zero] at h0 h1 h2
    obtain ⟨e, he, rfl⟩ := DataW.trod_bool Tryz.underlying4 h0
    obtain ⟨b, hb, rfl, _⟩ := DataW.trod_int Tryz.underlying3 h2
    obtain ⟨v, zs, hv, hs, _, hM⟩ := trod_intsI h1 (fun y hy => hlt y (by simp [hy]))
    simp only [List.cons.injEq, and_true] at he hb hv
    subst he hb hv
    refine ⟨⟨e, zs, b⟩, c1, rfl, hs, fun M hM' => hM M fun k hk => hM' k ?_⟩
    simp [DataW.weights, Tryz.underlying31, DataW.weightsEach, hk]
set_option maxRecDepth 100000 in
/-- Rows, by their cells. -/
theorem trod_rowsZ {fuel : Nat} {cs : List Value} {x : DataW H × List MemPlace} (h : DataW.trod enc Tryz.prog W 0 (fun _ => true) true fuel 27 cs = some x) (hlt : ∀ y ∈ x.2, y.block < W.heap.size) :
    ∃ v rs, cs = [v] ∧ RowsAt W v rs ∧ ∀ M, (∀ k ∈ x.1.weights Tryz.prog 27, k ≤ M) → rs.length * 40 ≤ M ∧ ∀ r ∈ rs, r.a.length * 8 ≤ M := by
  rcases open_slice Tryz.underlying27 h with ⟨rfl, rfl⟩ | ⟨a, len, cap, m, n, D, Pl, rfl, _, hl, hm, hmm, rfl, hx⟩
  · exact ⟨_, [], rfl, ⟨none, 0, rfl, fun h => absurd rfl h⟩, fun M _ => ⟨by simp, fun r hr => by simp at hr⟩⟩
  · simp only [if_true] at hmm
    rw [cellsR] at hx
    obtain ⟨f, hf⟩ := choose_lt (α := RowZ) (n := len) (p := fun i r => (∃ av, W.cell? (a.add (i * 3)) = some (.bool r.eq) ∧ W.cell? ((a.add (i * 3)).add 1) = some av ∧ SliceI W av r.a ∧ W.cell? ((a.add (i * 3)).add 2) = some (.int .i64 r.b)) ∧ ∀ M, (∀ k ∈ (D i).weights Tryz.prog 31, k ≤ M) → r.a.length * 8 ≤ M) (fun i hi => by
      obtain ⟨cs', h1, h2⟩ := hx i (by omega)
      obtain ⟨r, av, rfl, hs, hM⟩ := trod_rowZ h2 (fun y hy => hlt y (by
        refine List.mem_append_right _ (List.mem_flatMap.2 ⟨i, List.mem_range.2 (by omega), hy⟩)))
      obtain ⟨_, _, hc⟩ := World.cells?_some h1
      refine ⟨r, ⟨av, ?_, hc 1 (by omega), hs, hc 2 (by omega)⟩, hM⟩
      have := hc 0 (by omega)
      rwa [show (a.add (i * 3)).add 0 = a.add (i * 3) from by rw [Go.Deep.add_add]; rfl] at this)
    refine ⟨_, (List.range len).map f, rfl, ⟨some a, cap, by simp, fun hne => ?_⟩, fun M hM => ⟨?_, fun r hr => ?_⟩⟩
    · have h0 : 0 < len := by
        rcases Nat.eq_zero_or_pos len with e | e
        · subst e; simp at hne
        · exact e
      obtain ⟨⟨av0, hc0, _⟩, _⟩ := hf 0 h0
      obtain ⟨b, off, spot⟩ := a
      have hspot : spot = none := by simpa [Addr.add] using World.cell?_spot hc0
      subst hspot
      have hbW : b < W.heap.size := hlt (.cell b off) (List.mem_append_left _ (MemPlace.mem_row.2 ⟨0, by rw [cellsR]; omega, by simp⟩))
      refine ⟨b, off, rfl, hbW, fun i hi => ?_⟩
      have hi' : i < len := by simpa using hi
      obtain ⟨⟨av, g1, g2, g3, g4⟩, _⟩ := hf i hi'
      rw [add_plain'] at g1
      rw [add_plain', add_plain'] at g2 g4
      have e : ((List.range len).map f)[i] = f i := by simp
      rw [e]
      exact ⟨av, g1, g2, g3, g4⟩
    · have := hM (len * 40 + (m - len) * 40) (by simp [DataW.weights, Tryz.underlying27, bytesR, Nat.add_mul])
      simp only [List.length_map, List.length_range]
      omega
    · obtain ⟨i, hi, rfl⟩ := List.mem_map.1 hr
      have hi' : i < len := List.mem_range.1 hi
      refine (hf i hi').2 M fun k hk => hM k ?_
      simp only [DataW.weights, Tryz.underlying27, List.mem_cons, List.mem_append]
      exact .inr (.inl (weights_all (List.mem_map.2 ⟨i, hi, rfl⟩) k hk))
set_option maxRecDepth 100000 in
/-- An argument that is a polyhedron. -/
theorem open_poly {v : Value} {d : DataW H} {p : List MemPlace} {base : Nat} (hv : Value.okWide Tryz.prog W .any base 29 v)
    (h : DataW.Trod enc Tryz.prog W 0 (fun _ => true) true 29 v d p) (hlt : ∀ x ∈ p, x.block < W.heap.size) :
    ∃ dim u rs, v = .agg #[.int .i64 dim, u] ∧ RowsAt W u rs ∧ ∀ M, (∀ k ∈ d.weights Tryz.prog 29, k ≤ M) → rs.length * 40 ≤ M ∧ ∀ r ∈ rs, r.a.length * 8 ≤ M := by
  obtain ⟨cs, rfl, hsz⟩ := okWide_struct Tryz.underlying29 hv
  obtain ⟨fuel, hf⟩ := h
  obtain ⟨y0, y1, n, hx, hl, h0, h1⟩ := trod_struct2 Tryz.underlying29 hf
  rw [cellsP] at hsz
  obtain ⟨cs⟩ := cs
  match cs, hsz with
  | [c0, c1], _ =>
    simp only [Value.cells, cellsI, cellsRs, List.drop_zero, List.drop_succ_cons, List.take_succ_cons, List.take_zero] at h0 h1
    simp only [Prod.mk.injEq] at hx
    obtain ⟨rfl, rfl⟩ := hx
    obtain ⟨b, hb, rfl, _⟩ := DataW.trod_int Tryz.underlying3 h0
    obtain ⟨u, rs, hu, hr, hM⟩ := trod_rowsZ h1 (fun y hy => hlt y (by simp [hy]))
    simp only [List.cons.injEq, and_true] at hb hu
    subst hb hu
    refine ⟨b, c1, rs, rfl, hr, fun M hM' => hM M fun k hk => hM' k ?_⟩
    simp [DataW.weights, Tryz.underlying29, DataW.weightsEach, hk]
set_option maxRecDepth 100000 in
/-- An argument that is a row. -/
theorem open_row {v : Value} {d : DataW H} {p : List MemPlace} {base : Nat} (hv : Value.okWide Tryz.prog W .any base 31 v)
    (h : DataW.Trod enc Tryz.prog W 0 (fun _ => true) true 31 v d p) (hlt : ∀ x ∈ p, x.block < W.heap.size) :
    ∃ (r : RowZ) (u : Value), v = .agg #[.bool r.eq, u, .int .i64 r.b] ∧ SliceI W u r.a := by
  obtain ⟨cs, rfl, hsz⟩ := okWide_struct Tryz.underlying31 hv
  obtain ⟨fuel, hf⟩ := h
  obtain ⟨r, u, hc, hs, _⟩ := trod_rowZ hf hlt
  obtain ⟨cs⟩ := cs
  simp only [Value.cells] at hc
  subst hc
  exact ⟨r, u, rfl, hs⟩
end
end Go.Proofs.YtochcofoknfjfaaGreatDoor
