/- Words on memory: how a number of package math/big lies in a world, and what a call leaves of a world. No walk in this file. -/
import Derived.Test.YtggoncneinlpgaaGreatDoorProg
import Derived.Test.YtggoncneinlpgaaGreatDoorNat
import Derived.WalkKit
import Derived.Deep.Draws
namespace Go.Proofs.YtggoncneinlpgaaGreatDoor
open Go Go.RowKit Nt

/-- The world has turned in the blocks of S, and by new blocks, and in nothing else. -/
structure Chg (S : List Nat) (w w' : World) : Prop where
  os : w'.os = w.os
  tape : w'.tape = w.tape
  output : w'.output = w.output
  size : w.heap.size ≤ w'.heap.size
  block : ∀ k, k < w.heap.size → k ∉ S → w'.heap[k]? = w.heap[k]?

theorem Chg.refl (S : List Nat) (w : World) : Chg S w w := ⟨rfl, rfl, rfl, Nat.le_refl _, fun _ _ _ => rfl⟩
theorem Chg.trans {S : List Nat} {a b c : World} (h : Chg S a b) (k : Chg S b c) : Chg S a c :=
  ⟨k.os.trans h.os, k.tape.trans h.tape, k.output.trans h.output, Nat.le_trans h.size k.size,
    fun i hi hs => (k.block i (Nat.lt_of_lt_of_le hi h.size) hs).trans (h.block i hi hs)⟩
/-- The later step may write to what the earlier one laid. -/
theorem Chg.trans' {S T : List Nat} {a b c : World} (h : Chg S a b) (k : Chg T b c) (hT : ∀ x, x ∈ T → x ∈ S ∨ a.heap.size ≤ x) : Chg S a c :=
  ⟨k.os.trans h.os, k.tape.trans h.tape, k.output.trans h.output, Nat.le_trans h.size k.size,
    fun i hi hs => (k.block i (Nat.lt_of_lt_of_le hi h.size) (fun ht => by rcases hT i ht with h1 | h1; exact hs h1; omega)).trans (h.block i hi hs)⟩
theorem Chg.mono {S T : List Nat} {w w' : World} (h : Chg S w w') (hT : ∀ x, x ∈ S → x ∈ T) : Chg T w w' :=
  ⟨h.os, h.tape, h.output, h.size, fun k hk hs => h.block k hk (fun hx => hs (hT k hx))⟩
theorem Chg.drew {S : List Nat} {a w : World} (h : Chg S a w) : Chg S a w.drew := ⟨h.os, h.tape, h.output, h.size, h.block⟩
theorem Chg.drewN {S : List Nat} {a w : World} (h : Chg S a w) (n : Nat) : Chg S a (w.drewN n) := ⟨h.os, h.tape, h.output, h.size, h.block⟩
theorem Chg.alloc {S : List Nat} {a w : World} (h : Chg S a w) (o : Obj) : Chg S a (w.alloc o) :=
  ⟨h.os, h.tape, h.output, Nat.le_trans h.size (by simp), fun k hk hs => (Below.heap_alloc w o k (Nat.lt_of_lt_of_le hk h.size)).trans (h.block k hk hs)⟩
theorem Chg.setCell {S : List Nat} {a w : World} (h : Chg S a w) {p : Addr} (hp : p.block ∈ S ∨ a.heap.size ≤ p.block) (u : Value) : Chg S a (w.setCell p u) :=
  ⟨h.os, h.tape, h.output, by simpa [World.setCell] using h.size, fun k hk hs => (Below.heap_setCell w p u k (fun e => by
    subst e; rcases hp with h1 | h1
    · exact hs h1
    · omega)).trans (h.block k hk hs)⟩
theorem Chg.below {S : List Nat} {w w' : World} (h : Chg S w w') {B : Nat} (hB : B ≤ w.heap.size) (hS : ∀ x, x ∈ S → B ≤ x) : Below B w w' :=
  ⟨h.os, h.tape, h.output, h.size, fun k hk => h.block k (by omega) (fun hx => by have := hS k hx; omega)⟩
theorem Chg.of_below {B : Nat} {w w' : World} (h : Below B w w') (hB : w.heap.size ≤ B) (S : List Nat) : Chg S w w' :=
  ⟨h.os, h.tape, h.output, h.size, fun k hk _ => h.block k (by omega)⟩

theorem below_drewN' {B : Nat} {a w : World} (h : Below B a w) (n : Nat) : Below B a (w.drewN n) := ⟨h.os, h.tape, h.output, h.size, h.block⟩

/-- Block b of w is the row of cells cs of type t, none of them frozen. -/
def Blk (w : World) (b : Nat) (cs : Array Value) (t : TypeId) : Prop := w.heap[b]? = some (.cells cs t (0, 0))

theorem Blk.lt {w : World} {b : Nat} {cs : Array Value} {t : TypeId} (h : Blk w b cs t) : b < w.heap.size := by
  rcases Nat.lt_or_ge b w.heap.size with h1 | h1
  · exact h1
  · unfold Blk at h; rw [Array.getElem?_eq_none h1] at h; cases h
theorem Blk.cell {w : World} {b : Nat} {cs : Array Value} {t : TypeId} (h : Blk w b cs t) (i : Nat) : w.cell? ⟨b, i, none⟩ = cs[i]? := by
  unfold Blk at h; simp [World.cell?, h]
theorem Blk.free {w : World} {b : Nat} {cs : Array Value} {t : TypeId} (h : Blk w b cs t) (i : Nat) : w.frozen? ⟨b, i, none⟩ = false := by
  unfold Blk at h; simp [World.frozen?, h]
theorem Blk.chg {w w' : World} {b : Nat} {cs : Array Value} {t : TypeId} (h : Blk w b cs t) {S : List Nat} (hc : Chg S w w') (hb : b ∉ S) : Blk w' b cs t :=
  (hc.block b h.lt hb).trans h
theorem Blk.below {w w' : World} {b : Nat} {cs : Array Value} {t : TypeId} (h : Blk w b cs t) {B : Nat} (hc : Below B w w') (hb : b < B) : Blk w' b cs t :=
  (hc.block b hb).trans h
theorem Blk.drew {w : World} {b : Nat} {cs : Array Value} {t : TypeId} (h : Blk w b cs t) : Blk w.drew b cs t := h
theorem Blk.drewN {w : World} {b : Nat} {cs : Array Value} {t : TypeId} (h : Blk w b cs t) (n : Nat) : Blk (w.drewN n) b cs t := h
theorem Blk.alloc {w : World} {b : Nat} {cs : Array Value} {t : TypeId} (h : Blk w b cs t) (o : Obj) : Blk (w.alloc o) b cs t :=
  (Below.heap_alloc w o b h.lt).trans h
theorem Blk.new (w : World) (cs : Array Value) (t : TypeId) : Blk (w.alloc (.cells cs t)) w.heap.size cs t := by
  show (w.heap.push _)[w.heap.size]? = _
  simp
theorem Blk.set_other {w : World} {b : Nat} {cs : Array Value} {t : TypeId} (h : Blk w b cs t) {p : Addr} (hp : b ≠ p.block) (u : Value) : Blk (w.setCell p u) b cs t :=
  (Below.heap_setCell w p u b hp).trans h
theorem Blk.set {w : World} {b : Nat} {cs : Array Value} {t : TypeId} (h : Blk w b cs t) (i : Nat) (u : Value) : Blk (w.setCell ⟨b, i, none⟩ u) b (cs.setIfInBounds i u) t := by
  unfold Blk at h ⊢
  simp [World.setCell, Array.getElem?_modify, h]
theorem Blk.type {w : World} {b : Nat} {cs cs' : Array Value} {t t' : TypeId} (h : Blk w b cs t) (h' : Blk w b cs' t') : cs = cs' ∧ t = t' := by
  unfold Blk at h h'; rw [h] at h'; simpa using h'
theorem Blk.ne {w : World} {b b' : Nat} {cs cs' : Array Value} {t t' : TypeId} (h : Blk w b cs t) (h' : Blk w b' cs' t') (ht : t ≠ t') : b ≠ b' := fun e => by
  subst e; exact ht (h.type h').2

theorem Blk.two {w : World} {b : Nat} {x y : Value} {t : TypeId} (h : Blk w b #[x, y] t) :
    w.cell? ⟨b, 0, none⟩ = some x ∧ w.cell? ⟨b, 1, none⟩ = some y ∧ w.frozen? ⟨b, 0, none⟩ = false ∧ w.frozen? ⟨b, 1, none⟩ = false :=
  ⟨(h.cell 0).trans rfl, (h.cell 1).trans rfl, h.free 0, h.free 1⟩

/-- The slice value v is a row of words at the head of a block: its storage. S: the blocks that it takes up. -/
def Sto (w : World) (v : Value) (S : List Nat) : Prop :=
  (v = .slice none 0 0 ∧ S = []) ∨
  ∃ a n cap cs, v = .slice (some ⟨a, 0, none⟩) n cap ∧ S = [a] ∧ n ≤ cap ∧ cap ≤ 4294967296 ∧ cs.size = cap ∧ Blk w a cs 80

/-- The slice value v holds the digits ds. -/
def Wd (w : World) (v : Value) (ds : List Nat) (S : List Nat) : Prop :=
  (v = .slice none 0 0 ∧ S = [] ∧ ds = []) ∨
  ∃ a cap cs, v = .slice (some ⟨a, 0, none⟩) ds.length cap ∧ S = [a] ∧ ds.length ≤ cap ∧ cap ≤ 4294967296 ∧ cs.size = cap ∧ Blk w a cs 80 ∧
    ∀ i (h : i < ds.length), cs[i]? = some (.int .u64 (ds[i] : Nat))

theorem Wd.sto {w : World} {v : Value} {ds S : List Nat} (h : Wd w v ds S) : Sto w v S := by
  rcases h with ⟨h1, h2, _⟩ | ⟨a, cap, cs, h1, h2, h3, h4, h5, h6, _⟩
  · exact .inl ⟨h1, h2⟩
  · exact .inr ⟨a, _, cap, cs, h1, h2, h3, h4, h5, h6⟩
theorem Sto.lt {w : World} {v : Value} {S : List Nat} (h : Sto w v S) : ∀ k, k ∈ S → k < w.heap.size := by
  rcases h with ⟨_, rfl⟩ | ⟨a, n, cap, cs, _, rfl, _, _, _, hb⟩
  · intro k hk; cases hk
  · intro k hk; simp at hk; subst hk; exact hb.lt
theorem Wd.lt {w : World} {v : Value} {ds S : List Nat} (h : Wd w v ds S) : ∀ k, k ∈ S → k < w.heap.size := h.sto.lt
/-- What holds of the blocks of S in another world, too. -/
theorem Sto.to {w w' : World} {v : Value} {S : List Nat} (h : Sto w v S) (hs : ∀ k, k ∈ S → w'.heap[k]? = w.heap[k]?) : Sto w' v S := by
  rcases h with h | ⟨a, n, cap, cs, h1, rfl, h3, h4, h5, hb⟩
  · exact .inl h
  · exact .inr ⟨a, n, cap, cs, h1, rfl, h3, h4, h5, (hs a (by simp)).trans hb⟩
theorem Wd.to {w w' : World} {v : Value} {ds S : List Nat} (h : Wd w v ds S) (hs : ∀ k, k ∈ S → w'.heap[k]? = w.heap[k]?) : Wd w' v ds S := by
  rcases h with h | ⟨a, cap, cs, h1, rfl, h3, h4, h5, hb, hd⟩
  · exact .inl h
  · exact .inr ⟨a, cap, cs, h1, rfl, h3, h4, h5, (hs a (by simp)).trans hb, hd⟩

/-- Block b is a struct of type big.Int that is the number z; S: the blocks that it takes up. -/
def IntF (w : World) (b : Nat) (z : Int) (S : List Nat) : Prop :=
  ∃ v T, Blk w b #[.bool (decide (z < 0)), v] 62 ∧ Wd w v (dg z.natAbs) T ∧ S = b :: T

theorem IntF.lt {w : World} {b : Nat} {z : Int} {S : List Nat} (h : IntF w b z S) : ∀ k, k ∈ S → k < w.heap.size := by
  obtain ⟨v, T, hb, hw, rfl⟩ := h
  intro k hk
  rcases List.mem_cons.1 hk with rfl | hk
  · exact hb.lt
  · exact hw.lt k hk
theorem IntF.to {w w' : World} {b : Nat} {z : Int} {S : List Nat} (h : IntF w b z S) (hs : ∀ k, k ∈ S → w'.heap[k]? = w.heap[k]?) : IntF w' b z S := by
  obtain ⟨v, T, hb, hw, rfl⟩ := h
  exact ⟨v, T, (hs b (by simp)).trans hb, hw.to (fun k hk => hs k (List.mem_cons_of_mem _ hk)), rfl⟩
theorem IntF.chg {w w' : World} {b : Nat} {z : Int} {S T : List Nat} (h : IntF w b z S) (hc : Chg T w w') (hd : ∀ k, k ∈ S → k ∉ T) : IntF w' b z S :=
  h.to fun k hk => hc.block k (h.lt k hk) (hd k hk)
theorem IntF.below {w w' : World} {b : Nat} {z : Int} {S : List Nat} (h : IntF w b z S) {B : Nat} (hc : Below B w w') (hd : ∀ k, k ∈ S → k < B) : IntF w' b z S :=
  h.to fun k hk => hc.block k (hd k hk)

/-- The pointer p leads to the number z; what it takes up meets R. -/
def IntAt (w : World) (R : Nat → Prop) (p : Value) (z : Int) : Prop :=
  ∃ b S, p = .pointer (some ⟨b, 0, none⟩) ∧ IntF w b z S ∧ ∀ k, k ∈ S → R k

theorem IntAt.below {w w' : World} {R : Nat → Prop} {p : Value} {z : Int} (h : IntAt w R p z) {B : Nat} (hc : Below B w w') (hd : ∀ k, R k → k < w.heap.size → k < B) : IntAt w' R p z := by
  obtain ⟨b, S, rfl, h, hS⟩ := h
  exact ⟨b, S, rfl, h.below hc (fun k hk => hd k (hS k hk) (h.lt k hk)), hS⟩
theorem IntAt.mono {w : World} {R R' : Nat → Prop} {p : Value} {z : Int} (h : IntAt w R p z) (hR : ∀ k, k < w.heap.size → R k → R' k) : IntAt w R' p z := by
  obtain ⟨b, S, rfl, h, hS⟩ := h
  exact ⟨b, S, rfl, h, fun k hk => hR k (h.lt k hk) (hS k hk)⟩

/-- What a call that makes a number of words leaves: N's digits, in S's blocks or new ones. -/
def NatRes (w : World) (S : List Nat) (N : Nat) (e : Ending) (w' : World) : Prop :=
  ∃ v S', e = .returned v ∧ Wd w' v (dg N) S' ∧ (∀ k, k ∈ S' → k ∈ S ∨ w.heap.size ≤ k) ∧ Chg S w w'

/-- What a method of big.Int that sets its receiver leaves: the receiver itself, with the number z. -/
def IntRes (w : World) (b : Nat) (S : List Nat) (z : Int) (e : Ending) (w' : World) : Prop :=
  ∃ S', e = .returned (.pointer (some ⟨b, 0, none⟩)) ∧ IntF w' b z S' ∧ (∀ k, k ∈ S' → k ∈ S ∨ w.heap.size ≤ k) ∧ Chg S w w'

end Go.Proofs.YtggoncneinlpgaaGreatDoor
