/- How a list of lists of integers among the arguments is opened for the walks. -/
import Derived.Test.YtggoncneinlpgaaGreatDoorQ4
import Derived.Test.YtggoncneinlpgaaGreatDoorH12
namespace Go.Proofs.YtggoncneinlpgaaGreatDoor
open Go Go.ChangeShapes Go.WideShapes Go.ChangeAt Go.RowKit Go.Deep

theorem bytesS : Tryz.prog.bytesOf 23 = 24 := by kernel_rfl
section
variable {H : Type} {enc : TypeId × Value → H} {W : World}
set_option maxRecDepth 100000 in
/-- Lists of integers, by their cells. -/
theorem trod_mat {fuel : Nat} {cs : List Value} {x : DataW H × List MemPlace} (h : DataW.trod enc Tryz.prog W 0 (fun _ => true) true fuel 22 cs = some x) (hlt : ∀ y ∈ x.2, y.block < W.heap.size) :
    ∃ v m, cs = [v] ∧ MatAt W v m ∧ ∀ M, (∀ k ∈ x.1.weights Tryz.prog 22, k ≤ M) → m.length * 24 ≤ M ∧ ∀ r ∈ m, r.length * 8 ≤ M := by
  rcases open_slice1 Tryz.underlying22 cellsS h with ⟨rfl, rfl⟩ | ⟨a, len, cap, m, n, V, D, Pl, rfl, _, hl, hm, hmm, rfl, hx⟩
  · exact ⟨_, [], rfl, ⟨none, 0, rfl, fun h => absurd rfl h, fun _ => rfl⟩, fun M _ => ⟨by simp, fun r hr => by simp at hr⟩⟩
  · simp only [if_true] at hmm
    obtain ⟨f, hf⟩ := choose_lt (α := List Int) (n := len) (p := fun i r => (W.cell? (a.add i) = some (V i) ∧ SliceI W (V i) r) ∧ ∀ M, (∀ k ∈ (D i).weights Tryz.prog 23, k ≤ M) → r.length * 8 ≤ M) (fun i hi => by
      obtain ⟨h1, h2⟩ := hx i (by omega)
      obtain ⟨v, zs, hv, hs, _, hM⟩ := trod_intsI h2 (fun y hy => hlt y (by
        refine List.mem_append_right _ (List.mem_flatMap.2 ⟨i, List.mem_range.2 (by omega), hy⟩)))
      simp only [List.cons.injEq, and_true] at hv
      subst hv
      exact ⟨zs, ⟨h1, hs⟩, hM⟩)
    refine ⟨_, (List.range len).map f, rfl, ⟨some a, cap, by simp, fun hne => ?_, fun e => by cases e⟩, fun M hM => ⟨?_, fun r hr => ?_⟩⟩
    · have h0 : 0 < len := by
        rcases Nat.eq_zero_or_pos len with e | e
        · subst e; simp at hne
        · exact e
      obtain ⟨⟨hc0, _⟩, _⟩ := hf 0 h0
      obtain ⟨b, off, spot⟩ := a
      have hspot : spot = none := by simpa [Addr.add] using World.cell?_spot hc0
      subst hspot
      have hbW : b < W.heap.size := hlt (.cell b off) (List.mem_append_left _ (MemPlace.mem_row.2 ⟨0, by omega, by simp⟩))
      refine ⟨b, off, rfl, hbW, fun i hi => ?_⟩
      have hi' : i < len := by simpa using hi
      obtain ⟨⟨g1, g2⟩, _⟩ := hf i hi'
      rw [add_plain'] at g1
      have e : ((List.range len).map f)[i] = f i := by simp
      rw [e]
      exact ⟨_, g1, g2⟩
    · have := hM (len * 24 + (m - len) * 24) (by simp [DataW.weights, Tryz.underlying22, bytesS, Nat.add_mul])
      simp only [List.length_map, List.length_range]
      omega
    · obtain ⟨i, hi, rfl⟩ := List.mem_map.1 hr
      have hi' : i < len := List.mem_range.1 hi
      refine (hf i hi').2 M fun k hk => hM k ?_
      simp only [DataW.weights, Tryz.underlying22, List.mem_cons, List.mem_append]
      exact .inr (.inl (weights_all (List.mem_map.2 ⟨i, hi, rfl⟩) k hk))
set_option maxRecDepth 100000 in
/-- An argument that is a list of lists of integers. -/
theorem open_mat {v : Value} {d : DataW H} {p : List MemPlace} {base : Nat} (hv : Value.okWide Tryz.prog W .any base 22 v)
    (h : DataW.Trod enc Tryz.prog W 0 (fun _ => true) true 22 v d p) (hlt : ∀ x ∈ p, x.block < W.heap.size) :
    ∃ m, MatAt W v m ∧ ∀ M, (∀ k ∈ d.weights Tryz.prog 22, k ≤ M) → m.length * 24 ≤ M ∧ ∀ r ∈ m, r.length * 8 ≤ M := by
  obtain ⟨a0, len, cap, rfl⟩ := okWide_slice Tryz.underlying22 hv
  obtain ⟨fuel, hf⟩ := h
  obtain ⟨u, m, hu, hm, hM⟩ := trod_mat hf hlt
  simp only [Value.cells, List.cons.injEq, and_true] at hu
  subst hu
  exact ⟨m, hm, hM⟩
end
end Go.Proofs.YtggoncneinlpgaaGreatDoor
