/- How a polyhedron, a row and rows among the arguments are opened for the walks. -/
import Derived.Test.YtggoncneinlpgaaGreatDoorQ1
import Derived.Test.YtggoncneinlpgaaGreatDoorRP
import Derived.Deep.Strs
import Derived.Deep.Slices
namespace Go.Proofs.YtggoncneinlpgaaGreatDoor
open Go Go.ChangeShapes Go.WideShapes Go.ChangeAt Go.RowKit Go.Deep

instance : Inhabited RowZ := ⟨⟨false, [], 0⟩⟩
theorem add_plain' (b off i : Nat) : (⟨b, off, none⟩ : Addr).add i = ⟨b, off + i, none⟩ := by
  simp only [Addr.add]
  split
  · next h => subst h; rfl
  · rfl
theorem cellsB : Tryz.prog.cellsOf 4 = 1 := by kernel_rfl
theorem cellsS : Tryz.prog.cellsOf 23 = 1 := by kernel_rfl
theorem bytesI : Tryz.prog.bytesOf 3 = 8 := by kernel_rfl
section
variable {H : Type} {enc : TypeId × Value → H} {W : World}

theorem wf64 {n : Int} (h : (Lit.int .i64 n).wf = true) : -9223372036854775808 ≤ n ∧ n ≤ 9223372036854775807 := bounds_i64 h
theorem weights_all {P : Program} {e : TypeId} {d : DataW H} {l : List (DataW H)} (h : d ∈ l) : ∀ k ∈ d.weights P e, k ∈ DataW.weightsAll P e l := by
  induction l with
  | nil => cases h
  | cons x l ih =>
    intro k hk
    simp only [DataW.weightsAll, List.mem_append]
    rcases List.mem_cons.1 h with rfl | h
    · exact .inl hk
    · exact .inr (ih h k hk)
/-- A slice of integers, by its cells. -/
theorem trod_intsI {fuel : Nat} {cs : List Value} {x : DataW H × List MemPlace} (h : DataW.trod enc Tryz.prog W 0 (fun _ => true) true fuel 23 cs = some x) (hlt : ∀ y ∈ x.2, y.block < W.heap.size) :
    ∃ v zs, cs = [v] ∧ SliceI W v zs ∧ I64 zs ∧ ∀ M, (∀ k ∈ x.1.weights Tryz.prog 23, k ≤ M) → zs.length * 8 ≤ M := by
  rcases open_ints Tryz.underlying23 Tryz.underlying3 cellsI h with ⟨rfl, rfl⟩ | ⟨a, len, cap, zs, rfl, _, hl, hm, hz, rfl, hcell, hwz⟩
  · exact ⟨_, [], rfl, ⟨none, 0, rfl, fun h => absurd rfl h⟩, fun z hz => by simp at hz, fun M _ => by simp⟩
  · simp only [if_true] at hz
    have hlen : (zs.take len).length = len := by rw [List.length_take]; omega
    refine ⟨_, zs.take len, rfl, ⟨some a, cap, by rw [hlen], fun hne => ?_⟩, fun z hz' => ?_, fun M hM => ?_⟩
    · have h0 : 0 < len := by
        rcases Nat.eq_zero_or_pos len with e | e
        · subst e; simp at hne
        · exact e
      obtain ⟨b, off, spot⟩ := a
      have hspot : spot = none := by simpa [Addr.add] using World.cell?_spot (hcell 0 (by omega))
      subst hspot
      have hbW : b < W.heap.size := hlt (.cell b off) (MemPlace.mem_row.2 ⟨0, by omega, by simp⟩)
      refine ⟨b, off, rfl, hbW, fun i hi => ?_⟩
      rw [hlen] at hi
      have hc := hcell i (by omega)
      rw [add_plain'] at hc
      rw [hc, List.getElem_take, List.getD_eq_getElem?_getD, List.getElem?_eq_getElem (by omega)]
      rfl
    · exact wf64 (hwz z (List.mem_of_mem_take hz'))
    · have := hM ((zs.take len).length * 8 + (zs.drop len).length * 8) (by simp [DataW.weights, Tryz.underlying23, bytesI, lits, Nat.add_mul])
      omega
end
end Go.Proofs.YtggoncneinlpgaaGreatDoor
