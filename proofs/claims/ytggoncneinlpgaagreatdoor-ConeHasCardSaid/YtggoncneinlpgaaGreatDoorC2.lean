/- Walk: rows.Combine. -/
import Derived.Test.YtggoncneinlpgaaGreatDoorDC
import Derived.Test.YtggoncneinlpgaaGreatDoorD23
import Derived.Test.YtggoncneinlpgaaGreatDoorR234
namespace Go.Proofs.YtggoncneinlpgaaGreatDoor
open Go Go.RowKit Nt

theorem heap_new (w : World) (o : Obj) : (w.alloc o).heap[w.heap.size]? = some o := by
  show (w.heap.push _)[w.heap.size]? = _
  simp
theorem sliceI_lit {w : World} {b cap : Nat} {cs : Array Value} {t : TypeId} {zs : List Int} (h : w.heap[b]? = some (.cells cs t (0, 0))) (hc : cs.toList = zs.map (Value.int .i64)) : SliceI w (.slice (some ⟨b, 0, none⟩) zs.length cap) zs :=
  ⟨_, cap, rfl, fun _ => ⟨b, 0, rfl, heap_lt h, fun i hi => by
    have e : cs[i]? = some (.int .i64 zs[i]) := by
      rw [← Array.getElem?_toList, hc, List.getElem?_map, List.getElem?_eq_getElem hi]; rfl
    simp [World.cell?, h, e]⟩⟩
/-- A new slice of two numbers. -/
theorem sliceI_two (w : World) (x y : Int) (t : TypeId) : SliceI (w.alloc (.cells #[.int .i64 x, .int .i64 y] t)) (.slice (some ⟨w.heap.size, 0, none⟩) 2 2) [x, y] :=
  sliceI_lit (cap := 2) (zs := [x, y]) (heap_new w _) rfl

/-- What rows.Combine gives of two rows of one length, no number of which is large: the row z, or the bound's error. -/
def CombRes (w : World) (a : Nat → Addr) (z : List Int) (e : Ending) (w' : World) : Prop :=
  ∃ u ev, e = .returned (.tuple #[u, ev]) ∧ ((Fit z ∧ ev = .nilIface ∧ SliceI w' u z) ∨ (¬ Fit z ∧ ev = sentV a 1 ∧ u = .slice none 0 0)) ∧ Below w.heap.size w w'

theorem half_two {x y : Int} (h : largeB [x, y] = false) : x.natAbs ≤ 2147483648 ∧ y.natAbs ≤ 2147483648 := ⟨half_of h x (by simp), half_of h y (by simp)⟩
theorem not_fit {z : List Int} (h : ¬ Fit z) : ∃ i, ∃ h : i < z.length, 4611686018427387904 < z[i].natAbs := by
  refine Classical.byContradiction fun hn => h fun x hx => ?_
  obtain ⟨i, hi, rfl⟩ := List.getElem_of_mem hx
  refine Nat.le_of_not_lt fun hlt => hn ⟨i, hi, hlt⟩

end Go.Proofs.YtggoncneinlpgaaGreatDoor
