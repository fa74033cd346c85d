/- Words on rows of numbers of any size (exact.Row), on rows of such rows, and on slices of plain integers. No walk in this file. -/
import Derived.Test.YtochcofoknfjfaaGreatDoorW1
namespace Go.Proofs.YtochcofoknfjfaaGreatDoor
open Go Go.RowKit Nt

/-- v is a row of pointers ps; each leads to a number; all of it lies from block B0 on. -/
structure RowP (w : World) (B0 : Nat) (v : Value) (zs : List Int) (ps : List Value) : Prop where
  own : w.ownsRow B0 62 1 v zs.length ps
  ints : ∀ i (h : i < zs.length), ∃ p, ps[i]? = some p ∧ IntAt w (fun k => B0 ≤ k) p zs[i]

def RowAt (w : World) (B0 : Nat) (v : Value) (zs : List Int) : Prop := ∃ ps, RowP w B0 v zs ps

/-- No block of a number's is a row of pointers. -/
theorem IntF.notRow {w : World} {b : Nat} {z : Int} {S : List Nat} (h : IntF w b z S) {k : Nat} (hk : k ∈ S) {cs : Array Value} {t : TypeId} (h1 : t ≠ 66) (h2 : t ≠ 91) : ¬ Blk w k cs t := by
  obtain ⟨v, T, hb, hw, rfl⟩ := h
  intro hr
  rcases List.mem_cons.1 hk with rfl | hk
  · exact h1 (hb.type hr).2.symm
  · rcases hw with ⟨_, rfl, _⟩ | ⟨a, cap, cs', _, rfl, _, _, _, hb', _⟩
    · cases hk
    · simp at hk
      subst hk
      exact h2 (hb'.type hr).2.symm

theorem ownsRow_block {w : World} {B0 e size n : Nat} {v : Value} {xs : List Value} (h : w.ownsRow B0 e size v n xs) {g : Nat} (hg : v.ownBlock = some g) : ∃ cs, Blk w g cs e := by
  rcases h.2 with ⟨rfl, _⟩ | ⟨g', cap, cur, rfl, _, hb, _⟩
  · simp [Value.ownBlock] at hg
  · simp [Value.ownBlock] at hg
    subst hg
    exact ⟨_, hb⟩

/-- A number stays where the one block that is written is a row of another type. -/
theorem IntAt.grown {w w' : World} {R : Nat → Prop} {p : Value} {z : Int} (h : IntAt w R p z) {B0 e size n : Nat} {v : Value} {xs : List Value} (ho : w.ownsRow B0 e size v n xs) (hg : w.grownBy w' v.ownBlock)
    (h1 : e ≠ 66) (h2 : e ≠ 91) : IntAt w' R p z := by
  obtain ⟨b, S, rfl, hf, hS⟩ := h
  refine ⟨b, S, rfl, hf.to fun k hk => hg.block k (hf.lt k hk) fun he => ?_, hS⟩
  obtain ⟨cs, hb⟩ := ownsRow_block ho he.symm
  exact hf.notRow hk h1 h2 hb
theorem IntAt.alloc {w : World} {R : Nat → Prop} {p : Value} {z : Int} (h : IntAt w R p z) (o : Obj) : IntAt (w.alloc o) R p z := by
  obtain ⟨b, S, rfl, hf, hS⟩ := h
  exact ⟨b, S, rfl, hf.to fun k hk => Below.heap_alloc _ _ _ (hf.lt k hk), hS⟩

theorem ownsRow_below {w w' : World} {B0 e size n : Nat} {v : Value} {xs : List Value} (h : w.ownsRow B0 e size v n xs) {B1 : Nat} (hb : Below B1 w w') (hB : w.heap.size ≤ B1) : w'.ownsRow B0 e size v n xs := by
  refine h.kept (row := none) ⟨hb.os, hb.tape, hb.output, hb.size, fun k hk _ => hb.block k (by omega)⟩ ?_
  cases hv : v.ownBlock <;> simp
theorem RowP.below {w w' : World} {B0 : Nat} {v : Value} {zs : List Int} {ps : List Value} (h : RowP w B0 v zs ps) {B1 : Nat} (hb : Below B1 w w') (hB : w.heap.size ≤ B1) : RowP w' B0 v zs ps :=
  ⟨ownsRow_below h.own hb hB, fun i hi => by
    obtain ⟨p, hp, ha⟩ := h.ints i hi
    exact ⟨p, hp, ha.below hb fun k _ hk => by omega⟩⟩
theorem RowAt.below {w w' : World} {B0 : Nat} {v : Value} {zs : List Int} (h : RowAt w B0 v zs) {B1 : Nat} (hb : Below B1 w w') (hB : w.heap.size ≤ B1) : RowAt w' B0 v zs := by
  obtain ⟨ps, h⟩ := h
  exact ⟨ps, h.below hb hB⟩
theorem RowP.nil (w : World) (B0 : Nat) : RowP w B0 (.slice none 0 0) [] [] := ⟨World.ownsRow_nil _ _ _ _, fun i hi => by simp at hi⟩

/-- What an append of one pointer leaves. -/
theorem RowP.push {w1 w2 : World} {o : Obj} {B0 : Nat} {v v' p : Value} {z : Int} {zs : List Int} {ps : List Value} (h : RowP w1 B0 v zs ps) (hz : IntAt w1 (fun k => B0 ≤ k) p z)
    (ho : w2.ownsRow B0 62 1 v' (zs.length + 1) (ps ++ [p])) (hg : (w1.alloc o).grownBy w2 v.ownBlock) : RowP w2 B0 v' (zs ++ [z]) (ps ++ [p]) := by
  have hown1 := h.own.alloc o
  have hl : ps.length = zs.length := by simpa using h.own.1
  refine ⟨by simpa using ho, fun i hi => ?_⟩
  by_cases hi' : i < zs.length
  · obtain ⟨q, hq, ha⟩ := h.ints i hi'
    refine ⟨q, by rw [List.getElem?_append_left (by omega)]; exact hq, ?_⟩
    rw [List.getElem_append_left hi']
    exact (ha.alloc o).grown hown1 hg (by decide) (by decide)
  · have : i = zs.length := by simp at hi; omega
    subst this
    refine ⟨p, by rw [List.getElem?_append_right (by omega), hl]; simp, ?_⟩
    rw [List.getElem_append_right (Nat.le_refl _)]
    simpa using (hz.alloc o).grown hown1 hg (by decide) (by decide)

theorem RowP.form {w : World} {B0 : Nat} {v : Value} {zs : List Int} {ps : List Value} (h : RowP w B0 v zs ps) : ∃ o cap, v = .slice o zs.length cap ∧ zs.length ≤ cap ∧ cap ≤ maxLen := by
  rcases h.own.2 with ⟨rfl, hn⟩ | ⟨g, cap, cur, rfl, _, _, h1, h2, _⟩
  · exact ⟨none, 0, by rw [hn], by omega, by omega⟩
  · exact ⟨_, cap, rfl, h1, h2⟩
/-- The i-th cell of a row. -/
theorem RowP.cell {w : World} {B0 : Nat} {v : Value} {zs : List Int} {ps : List Value} (h : RowP w B0 v zs ps) (hne : 0 < zs.length) :
    ∃ a cap, v = .slice (some ⟨a, 0, none⟩) zs.length cap ∧ B0 ≤ a ∧ a < w.heap.size ∧ ∀ i (_ : i < zs.length), ∃ p, ps[i]? = some p ∧ w.cell? ⟨a, i, none⟩ = some p := by
  rcases h.own.2 with ⟨rfl, hn⟩ | ⟨g, cap, cur, rfl, hB, hb, h1, h2, h3, h4⟩
  · omega
  · refine ⟨g, cap, rfl, hB, (show Blk w g cur _ from hb).lt, fun i hi => ?_⟩
    have hl : ps.length = zs.length := by simpa using h.own.1
    refine ⟨ps[i]'(by omega), by simp [hl, hi], ?_⟩
    rw [(show Blk w g cur _ from hb).cell]
    have : ps[i]? = cur[i]? := by
      rw [← h4, List.getElem?_take_of_lt (by omega)]
      simp
    rw [← this]
    simp [hl, hi]

/-! ### Slices of integers -/
/-- The slice value v holds the integers zs. -/
def SliceI (w : World) (v : Value) (zs : List Int) : Prop :=
  ∃ o cap, v = .slice o zs.length cap ∧ (zs ≠ [] → ∃ b off, o = some ⟨b, off, none⟩ ∧ b < w.heap.size ∧ ∀ i (h : i < zs.length), w.cell? ⟨b, off + i, none⟩ = some (.int .i64 zs[i]))

theorem SliceI.below {w w' : World} {v : Value} {zs : List Int} (h : SliceI w v zs) {B1 : Nat} (hb : Below B1 w w') (hB : w.heap.size ≤ B1) : SliceI w' v zs := by
  obtain ⟨o, cap, rfl, h⟩ := h
  refine ⟨o, cap, rfl, fun hne => ?_⟩
  obtain ⟨b, off, rfl, hlt, hc⟩ := h hne
  exact ⟨b, off, rfl, Nat.lt_of_lt_of_le hlt hb.size, fun i hi => (hb.cell (p := ⟨b, off + i, none⟩) (by simp; omega)).trans (hc i hi)⟩
/-- All of them are int64s. -/
def I64 (zs : List Int) : Prop := ∀ z ∈ zs, -9223372036854775808 ≤ z ∧ z ≤ 9223372036854775807
theorem I64.get {zs : List Int} (h : I64 zs) (i : Nat) (hi : i < zs.length) : -9223372036854775808 ≤ zs[i] ∧ zs[i] ≤ 9223372036854775807 := h _ (List.getElem_mem hi)

end Go.Proofs.YtochcofoknfjfaaGreatDoor
