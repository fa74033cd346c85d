/- Words on rows of numbers of any size (exact.Row), on rows of such rows, and on slices of plain integers. No walk in this file. Walk: exact.Of. Families of numbers that share no block; exact.Of makes one. -/
import Derived.Test.YtggoncneinlpgaaGreatDoorW1
namespace Go.Proofs.YtggoncneinlpgaaGreatDoor
open Go Go.RowKit Nt

/-- v is a row of pointers ps; each leads to a number; all of it lies from block B0 on. -/
structure RowP (w : World) (B0 : Nat) (v : Value) (zs : List Int) (ps : List Value) : Prop where
  own : w.ownsRow B0 49 1 v zs.length ps
  ints : ∀ i (h : i < zs.length), ∃ p, ps[i]? = some p ∧ IntAt w (fun k => B0 ≤ k) p zs[i]

def RowAt (w : World) (B0 : Nat) (v : Value) (zs : List Int) : Prop := ∃ ps, RowP w B0 v zs ps

/-- No block of a number's is a row of pointers. -/
theorem IntF.notRow {w : World} {b : Nat} {z : Int} {S : List Nat} (h : IntF w b z S) {k : Nat} (hk : k ∈ S) {cs : Array Value} {t : TypeId} (h1 : t ≠ 62) (h2 : t ≠ 80) : ¬ Blk w k cs t := by
  obtain ⟨v, T, hb, hw, rfl⟩ := h
  intro hr
  rcases List.mem_cons.1 hk with rfl | hk
  · exact h1 (hb.type hr).2.symm
  · rcases hw with ⟨_, rfl, _⟩ | ⟨a, cap, cs', _, rfl, _, _, _, hb', _⟩
    · cases hk
    · simp at hk
      subst hk
      exact h2 (hb'.type hr).2.symm

theorem ownsRow_block {w : World} {B0 e size n : Nat} {v : Value} {xs : List Value} (h : w.ownsRow B0 e size v n xs) {g : Nat} (hg : v.ownBlock = some g) : ∃ cs, Blk w g cs e := by
  rcases h.2 with ⟨rfl, _⟩ | ⟨g', cap, cur, rfl, _, hb, _⟩
  · simp [Value.ownBlock] at hg
  · simp [Value.ownBlock] at hg
    subst hg
    exact ⟨_, hb⟩

/-- A number stays where the one block that is written is a row of another type. -/
theorem IntAt.grown {w w' : World} {R : Nat → Prop} {p : Value} {z : Int} (h : IntAt w R p z) {B0 e size n : Nat} {v : Value} {xs : List Value} (ho : w.ownsRow B0 e size v n xs) (hg : w.grownBy w' v.ownBlock)
    (h1 : e ≠ 62) (h2 : e ≠ 80) : IntAt w' R p z := by
  obtain ⟨b, S, rfl, hf, hS⟩ := h
  refine ⟨b, S, rfl, hf.to fun k hk => hg.block k (hf.lt k hk) fun he => ?_, hS⟩
  obtain ⟨cs, hb⟩ := ownsRow_block ho he.symm
  exact hf.notRow hk h1 h2 hb
theorem IntAt.alloc {w : World} {R : Nat → Prop} {p : Value} {z : Int} (h : IntAt w R p z) (o : Obj) : IntAt (w.alloc o) R p z := by
  obtain ⟨b, S, rfl, hf, hS⟩ := h
  exact ⟨b, S, rfl, hf.to fun k hk => Below.heap_alloc _ _ _ (hf.lt k hk), hS⟩

theorem ownsRow_below {w w' : World} {B0 e size n : Nat} {v : Value} {xs : List Value} (h : w.ownsRow B0 e size v n xs) {B1 : Nat} (hb : Below B1 w w') (hB : w.heap.size ≤ B1) : w'.ownsRow B0 e size v n xs := by
  refine h.kept (row := none) ⟨hb.os, hb.tape, hb.output, hb.size, fun k hk _ => hb.block k (by omega)⟩ ?_
  cases hv : v.ownBlock <;> simp
theorem RowP.below {w w' : World} {B0 : Nat} {v : Value} {zs : List Int} {ps : List Value} (h : RowP w B0 v zs ps) {B1 : Nat} (hb : Below B1 w w') (hB : w.heap.size ≤ B1) : RowP w' B0 v zs ps :=
  ⟨ownsRow_below h.own hb hB, fun i hi => by
    obtain ⟨p, hp, ha⟩ := h.ints i hi
    exact ⟨p, hp, ha.below hb fun k _ hk => by omega⟩⟩
theorem RowAt.below {w w' : World} {B0 : Nat} {v : Value} {zs : List Int} (h : RowAt w B0 v zs) {B1 : Nat} (hb : Below B1 w w') (hB : w.heap.size ≤ B1) : RowAt w' B0 v zs := by
  obtain ⟨ps, h⟩ := h
  exact ⟨ps, h.below hb hB⟩
theorem RowP.nil (w : World) (B0 : Nat) : RowP w B0 (.slice none 0 0) [] [] := ⟨World.ownsRow_nil _ _ _ _, fun i hi => by simp at hi⟩

/-- What an append of one pointer leaves. -/
theorem RowP.push {w1 w2 : World} {o : Obj} {B0 : Nat} {v v' p : Value} {z : Int} {zs : List Int} {ps : List Value} (h : RowP w1 B0 v zs ps) (hz : IntAt w1 (fun k => B0 ≤ k) p z)
    (ho : w2.ownsRow B0 49 1 v' (zs.length + 1) (ps ++ [p])) (hg : (w1.alloc o).grownBy w2 v.ownBlock) : RowP w2 B0 v' (zs ++ [z]) (ps ++ [p]) := by
  have hown1 := h.own.alloc o
  have hl : ps.length = zs.length := by simpa using h.own.1
  refine ⟨by simpa using ho, fun i hi => ?_⟩
  by_cases hi' : i < zs.length
  · obtain ⟨q, hq, ha⟩ := h.ints i hi'
    refine ⟨q, by rw [List.getElem?_append_left (by omega)]; exact hq, ?_⟩
    rw [List.getElem_append_left hi']
    exact (ha.alloc o).grown hown1 hg (by decide) (by decide)
  · have : i = zs.length := by simp at hi; omega
    subst this
    refine ⟨p, by rw [List.getElem?_append_right (by omega), hl]; simp, ?_⟩
    rw [List.getElem_append_right (Nat.le_refl _)]
    simpa using (hz.alloc o).grown hown1 hg (by decide) (by decide)

theorem RowP.form {w : World} {B0 : Nat} {v : Value} {zs : List Int} {ps : List Value} (h : RowP w B0 v zs ps) : ∃ o cap, v = .slice o zs.length cap ∧ zs.length ≤ cap ∧ cap ≤ maxLen := by
  rcases h.own.2 with ⟨rfl, hn⟩ | ⟨g, cap, cur, rfl, _, _, h1, h2, _⟩
  · exact ⟨none, 0, by rw [hn], by omega, by omega⟩
  · exact ⟨_, cap, rfl, h1, h2⟩
/-- The i-th cell of a row. -/
theorem RowP.cell {w : World} {B0 : Nat} {v : Value} {zs : List Int} {ps : List Value} (h : RowP w B0 v zs ps) (hne : 0 < zs.length) :
    ∃ a cap, v = .slice (some ⟨a, 0, none⟩) zs.length cap ∧ B0 ≤ a ∧ a < w.heap.size ∧ ∀ i (_ : i < zs.length), ∃ p, ps[i]? = some p ∧ w.cell? ⟨a, i, none⟩ = some p := by
  rcases h.own.2 with ⟨rfl, hn⟩ | ⟨g, cap, cur, rfl, hB, hb, h1, h2, h3, h4⟩
  · omega
  · refine ⟨g, cap, rfl, hB, (show Blk w g cur _ from hb).lt, fun i hi => ?_⟩
    have hl : ps.length = zs.length := by simpa using h.own.1
    refine ⟨ps[i]'(by omega), by simp [hl, hi], ?_⟩
    rw [(show Blk w g cur _ from hb).cell]
    have : ps[i]? = cur[i]? := by
      rw [← h4, List.getElem?_take_of_lt (by omega)]
      simp
    rw [← this]
    simp [hl, hi]

/-! ### Slices of integers -/
/-- The slice value v holds the integers zs. -/
def SliceI (w : World) (v : Value) (zs : List Int) : Prop :=
  ∃ o cap, v = .slice o zs.length cap ∧ (zs ≠ [] → ∃ b off, o = some ⟨b, off, none⟩ ∧ b < w.heap.size ∧ ∀ i (h : i < zs.length), w.cell? ⟨b, off + i, none⟩ = some (.int .i64 zs[i]))

theorem SliceI.below {w w' : World} {v : Value} {zs : List Int} (h : SliceI w v zs) {B1 : Nat} (hb : Below B1 w w') (hB : w.heap.size ≤ B1) : SliceI w' v zs := by
  obtain ⟨o, cap, rfl, h⟩ := h
  refine ⟨o, cap, rfl, fun hne => ?_⟩
  obtain ⟨b, off, rfl, hlt, hc⟩ := h hne
  exact ⟨b, off, rfl, Nat.lt_of_lt_of_le hlt hb.size, fun i hi => (hb.cell (p := ⟨b, off + i, none⟩) (by simp; omega)).trans (hc i hi)⟩
/-- All of them are int64s. -/
def I64 (zs : List Int) : Prop := ∀ z ∈ zs, -9223372036854775808 ≤ z ∧ z ≤ 9223372036854775807
theorem I64.get {zs : List Int} (h : I64 zs) (i : Nat) (hi : i < zs.length) : -9223372036854775808 ≤ zs[i] ∧ zs[i] ≤ 9223372036854775807 := h _ (List.getElem_mem hi)

end Go.Proofs.YtggoncneinlpgaaGreatDoor
namespace Go.Proofs.YtggoncneinlpgaaGreatDoor
open Go Go.RowKit Nt

theorem infoP : (Tryz.prog.info? 49).map (fun i => (i.zero, i.size, i.bytes)) = some (some (.pointer none), 1, 8) := by kernel_rfl

/-- A new row of numbers; nothing old has turned. -/
def RowNew (w : World) (zs : List Int) (e : Ending) (w' : World) : Prop := ∃ v, e = .returned v ∧ RowAt w' w.heap.size v zs ∧ Below w.heap.size w w'

set_option maxRecDepth 100000 in
set_option maxHeartbeats 1000000 in
theorem of_any (v : Value) (zs : List Int) (w : World) (hv : SliceI w v zs) (h64 : I64 zs) (hl : zs.length ≤ 1000000) : Calls Tryz.prog 18 #[v] w (RowNew w zs) := by
  obtain ⟨o, cap, rfl, hc⟩ := hv
  obtain ⟨i0, hi, hzz⟩ := Option.map_eq_some_iff.1 infoP
  simp only [Prod.mk.injEq] at hzz
  obtain ⟨hz0, hz1, hz2⟩ := hzz
  have HI := Lib.hid hi
  have HZ0 := Lib.hid hz0
  have HZ1 := Lib.hid hz1
  have HZ2 := Lib.hid hz2
  clear hi hz0 hz1 hz2
  obtain ⟨n, hn⟩ : ∃ n, zs.length = n := ⟨_, rfl⟩
  obtain ⟨B0, hB0⟩ : ∃ B0, w.heap.size = B0 := ⟨_, rfl⟩
  rw [hn] at hl ⊢
  have HN := Lib.hid hn
  have HB := Lib.hid hB0
  have HC := Lib.hid hc
  clear hn hB0 hc
  go_enter Tryz.func18, Tryz.ntmps18
  go_wp2
  go_loopw [3, 8] (fun r i wr => ∃ (k : Nat) (ps : List Value), k ≤ n ∧ i = .int .i64 k ∧ RowP wr B0 r (zs.take k) ps ∧ Below B0 w wr) (fun _ i _ => n - (intOf i).toNat)
  case atStart => exact ⟨0, [], Nat.zero_le _, rfl, by simpa using RowP.nil w B0, Below.refl _ _⟩
  case round =>
    obtain ⟨k, ps, hk, rfl, hrow, hb⟩ := hrel
    by_cases hlt : k < n
    · have hk' : k < zs.length := by have := HN.out; omega
      obtain ⟨b, off, rfl, hbl, hcs⟩ := HC.out (by intro e; rw [e] at hk'; simp at hk')
      have hcell : wr.cell? ⟨b, off + k, none⟩ = some (.int .i64 zs[k]) := (hb.cell (p := ⟨b, off + k, none⟩) (by have := HB.out; simp; omega)).trans (hcs k hk')
      obtain ⟨z, hz⟩ : ∃ z, zs[k] = z := ⟨_, rfl⟩
      have h64' := h64.get k hk'
      rw [hz] at hcell h64'
      have HZ := Lib.hid hz
      clear hz hcs
      have hlen : (zs.take k).length = k := by rw [List.length_take]; omega
      have HLEN := Lib.hid hlen
      clear hlen
      go_wp2_with fail
      refine (newInt_any z wr h64'.1 h64'.2).mono ?_
      rintro e w1 ⟨bz, S, rfl, hf, hS, hb1⟩
      have hrow1 := hrow.below hb1 (Nat.le_refl _)
      have hown1 := hrow1.own
      rw [HLEN.out] at hown1
      have hp : IntAt w1 (fun k => B0 ≤ k) (.pointer (some ⟨bz, 0, none⟩)) z := ⟨bz, S, rfl, hf, fun k hk => Nat.le_trans (by have := HB.out; have := hb.size; omega) (hS k hk)⟩
      have hbw1 := hb.trans (hb1.mono (by have := HB.out; have := hb.size; omega : B0 ≤ wr.heap.size))
      go_wp2_with (at_builtin; refine wpList_append_own _ rfl (.tmp 12) (.tmp 15) 47 rfl B0 49 i0 (.pointer none) 1 8 Tryz.underlying47 HI.out HZ0.out HZ1.out HZ2.out rfl (by decide) _ k ps rfl (hown1.alloc _) ⟨w1.heap.size, 0, none⟩ 1 1 [.pointer (some ⟨bz, 0, none⟩)] rfl rfl ?c1 ?c2 ?c3 ?c4 ?c5 ?_)
      case c1 =>
        intro j u hj
        match j, hj with
        | 0, hj => simp at hj; subst hj; simp [Addr.add]
      case c2 => intro u hu; simp at hu; subst hu; rfl
      case c3 => unfold maxLen; omega
      case c4 => omega
      case c5 => have := HB.out; have := hbw1.size; simp; omega
      · intro v' w2 hown' hgrow _
        have hpush := hrow1.push hp (by rw [HLEN.out]; exact hown') hgrow
        rw [← HZ.out, ← List.take_succ_eq_append_getElem hk'] at hpush
        have hbw2 : Below B0 w w2 := (hbw1.alloc (by have := HB.out; have := hbw1.size; omega) _).grown hgrow (by have := HB.out; have := hbw1.size; simp; omega) (fun k hk => (hown1.lt k hk).1)
        clear hown' hgrow hown1 hrow1 hrow hp hbw1 hb1 hb hf
        go_wp2
        go_roundw
        case rel => exact ⟨k + 1, _, by omega, by go_num, hpush, hbw2⟩
        case measure => simp [intOf]; omega
    · obtain rfl : k = n := by omega
      go_wp2
      go_ret
      refine ⟨_, rfl, ⟨ps, ?_⟩, ?_⟩
      · rw [HB.out]
        have := HN.out
        rwa [List.take_of_length_le (by omega)] at hrow
      · rw [HB.out]; exact hb
end Go.Proofs.YtggoncneinlpgaaGreatDoor
namespace Go.Proofs.YtggoncneinlpgaaGreatDoor
open Go Go.RowKit Nt

/-- A number: its block, its value, the blocks that it takes up. -/
abbrev Num := Nat × Int × List Nat
def ptrs (L : List Num) : List Value := L.map fun e => .pointer (some ⟨e.1, 0, none⟩)
def vals (L : List Num) : List Int := L.map fun e => e.2.1

/-- Numbers that share no block, all of them from block B on. -/
structure Fam (w : World) (B : Nat) (L : List Num) : Prop where
  int : ∀ (i b : Nat) (z : Int) (S : List Nat), L[i]? = some (b, z, S) → IntF w b z S ∧ ∀ k ∈ S, B ≤ k
  sep : ∀ (i j b : Nat) (z : Int) (S : List Nat) (b' : Nat) (z' : Int) (S' : List Nat), i ≠ j → L[i]? = some (b, z, S) → L[j]? = some (b', z', S') → ∀ k ∈ S, k ∉ S'

theorem IntF.head {w : World} {b : Nat} {z : Int} {S : List Nat} (h : IntF w b z S) : b ∈ S := by
  obtain ⟨v, T, _, _, rfl⟩ := h
  simp
theorem Fam.below {w w' : World} {B : Nat} {L : List Num} (h : Fam w B L) {B1 : Nat} (hb : Below B1 w w') (hB : w.heap.size ≤ B1) : Fam w' B L :=
  ⟨fun i b z S e => ⟨(h.int i b z S e).1.below hb fun k hk => Nat.lt_of_lt_of_le ((h.int i b z S e).1.lt k hk) hB, (h.int i b z S e).2⟩, h.sep⟩
theorem Fam.nil (w : World) (B : Nat) : Fam w B [] := ⟨fun i b z S e => by simp at e, fun i j b z S b' z' S' _ e => by simp at e⟩
theorem Fam.mono {w : World} {B C : Nat} {L : List Num} (h : Fam w B L) (hC : C ≤ B) : Fam w C L :=
  ⟨fun i b z S e => ⟨(h.int i b z S e).1, fun k hk => Nat.le_trans hC ((h.int i b z S e).2 k hk)⟩, h.sep⟩
theorem Fam.one {w : World} {B b : Nat} {z : Int} {S : List Nat} (h : IntF w b z S) (hS : ∀ k ∈ S, B ≤ k) : Fam w B [(b, z, S)] := by
  refine ⟨fun i b' z' S' e => ?_, fun i j b1 z1 S1 b2 z2 S2 hne e1 e2 => ?_⟩
  · match i, e with
    | 0, e => simp at e; obtain ⟨rfl, rfl, rfl⟩ := e; exact ⟨h, hS⟩
    | i + 1, e => simp at e
  · match i, j, e1, e2 with
    | 0, 0, _, _ => exact absurd rfl hne
    | 0, j + 1, _, e => simp at e
    | i + 1, _, e, _ => simp at e
/-- Two families, the one below a block, the other from it on. -/
theorem Fam.join {w : World} {B C : Nat} {L M : List Num} (h : Fam w B L) (hm : Fam w C M) (hlt : ∀ (i b : Nat) (z : Int) (S : List Nat), L[i]? = some (b, z, S) → ∀ k ∈ S, k < C) (hC : B ≤ C) : Fam w B (L ++ M) := by
  have hd : ∀ (i b : Nat) (z : Int) (S : List Nat), (L ++ M)[i]? = some (b, z, S) → (i < L.length ∧ L[i]? = some (b, z, S)) ∨ (L.length ≤ i ∧ M[i - L.length]? = some (b, z, S)) := fun i b z S e => by
    by_cases hi : i < L.length
    · exact .inl ⟨hi, by rwa [List.getElem?_append_left hi] at e⟩
    · exact .inr ⟨by omega, by rwa [List.getElem?_append_right (by omega)] at e⟩
  refine ⟨fun i b z S e => ?_, fun i j b z S b' z' S' hne e1 e2 k hk hk' => ?_⟩
  · rcases hd i b z S e with ⟨_, e⟩ | ⟨_, e⟩
    · exact h.int _ _ _ _ e
    · exact ⟨(hm.int _ _ _ _ e).1, fun k hk => Nat.le_trans hC ((hm.int _ _ _ _ e).2 k hk)⟩
  · rcases hd i b z S e1 with ⟨_, e1⟩ | ⟨l1, e1⟩ <;> rcases hd j b' z' S' e2 with ⟨_, e2⟩ | ⟨l2, e2⟩
    · exact h.sep _ _ _ _ _ _ _ _ hne e1 e2 k hk hk'
    · have := hlt _ _ _ _ e1 k hk; have := (hm.int _ _ _ _ e2).2 k hk'; omega
    · have := hlt _ _ _ _ e2 k hk'; have := (hm.int _ _ _ _ e1).2 k hk; omega
    · exact hm.sep (i - L.length) (j - L.length) _ _ _ _ _ _ (by omega) e1 e2 k hk hk'
theorem Fam.lt {w : World} {B : Nat} {L : List Num} (h : Fam w B L) : ∀ (i b : Nat) (z : Int) (S : List Nat), L[i]? = some (b, z, S) → ∀ k ∈ S, k < w.heap.size :=
  fun i b z S e => (h.int i b z S e).1.lt
theorem Fam.left {w : World} {B : Nat} {L M : List Num} (h : Fam w B (L ++ M)) : Fam w B L := by
  have hd : ∀ (i b : Nat) (z : Int) (S : List Nat), L[i]? = some (b, z, S) → (L ++ M)[i]? = some (b, z, S) := fun i b z S e => by
    rw [List.getElem?_append_left (List.getElem?_eq_some_iff.1 e).1]; exact e
  exact ⟨fun i b z S e => h.int i b z S (hd _ _ _ _ e), fun i j b z S b' z' S' hne e1 e2 => h.sep i j _ _ _ _ _ _ hne (hd _ _ _ _ e1) (hd _ _ _ _ e2)⟩
theorem Fam.push {w w' : World} {B b : Nat} {z : Int} {S : List Nat} {L : List Num} (h : Fam w B L) (hb : Below w.heap.size w w') (hi : IntF w' b z S) (hS : ∀ k ∈ S, w.heap.size ≤ k) (hB : B ≤ w.heap.size) : Fam w' B (L ++ [(b, z, S)]) :=
  (h.below hb (Nat.le_refl _)).join (Fam.one hi hS) h.lt hB
/-- One number of a family turns. -/
theorem Fam.set {w w' : World} {B i b : Nat} {z z' : Int} {S S' : List Nat} {L : List Num} (h : Fam w B L) (hi : L[i]? = some (b, z, S)) (hz : IntF w' b z' S') (hs : ∀ k, k ∈ S' → k ∈ S ∨ w.heap.size ≤ k) (hc : Chg S w w') :
    Fam w' B (L.set i (b, z', S')) := by
  obtain ⟨hf, hS⟩ := h.int i b z S hi
  have hBs : B ≤ w.heap.size := Nat.le_of_lt (Nat.lt_of_le_of_lt (hS b hf.head) (hf.lt b hf.head))
  have hd : ∀ (j b1 : Nat) (z1 : Int) (S1 : List Nat), (L.set i (b, z', S'))[j]? = some (b1, z1, S1) → (j = i ∧ b1 = b ∧ z1 = z' ∧ S1 = S') ∨ (j ≠ i ∧ L[j]? = some (b1, z1, S1)) := fun j b1 z1 S1 e => by
    by_cases hj : j = i
    · subst hj
      rw [List.getElem?_set_self (List.getElem?_eq_some_iff.1 hi).1] at e
      simp at e
      obtain ⟨rfl, rfl, rfl⟩ := e
      exact .inl ⟨rfl, rfl, rfl, rfl⟩
    · rw [List.getElem?_set_ne (by omega)] at e
      exact .inr ⟨hj, e⟩
  refine ⟨fun j b1 z1 S1 e => ?_, fun j l b1 z1 S1 b2 z2 S2 hne e1 e2 k hk hk' => ?_⟩
  · rcases hd _ _ _ _ e with ⟨rfl, rfl, rfl, rfl⟩ | ⟨hj, e⟩
    · refine ⟨hz, fun k hk => ?_⟩
      rcases hs k hk with h1 | h1
      · exact hS k h1
      · omega
    · exact ⟨(h.int _ _ _ _ e).1.chg hc (h.sep _ _ _ _ _ _ _ _ hj e hi), (h.int _ _ _ _ e).2⟩
  · rcases hd _ _ _ _ e1 with ⟨g1, g2, g3, g4⟩ | ⟨hj, f1⟩ <;> rcases hd _ _ _ _ e2 with ⟨i1, i2, i3, i4⟩ | ⟨hl, f2⟩
    · exact hne (g1.trans i1.symm)
    · rw [g4] at hk
      rcases hs k hk with h1 | h1
      · exact h.sep _ _ _ _ _ _ _ _ (fun e => hl e.symm) hi f2 k h1 hk'
      · have := h.lt _ _ _ _ f2 k hk'; omega
    · rw [i4] at hk'
      rcases hs k hk' with h1 | h1
      · exact h.sep _ _ _ _ _ _ _ _ hj f1 hi k hk h1
      · have := h.lt _ _ _ _ f1 k hk; omega
    · exact h.sep _ _ _ _ _ _ _ _ hne f1 f2 k hk hk'

/-- A family stays where only a row of another type grows. -/
theorem Fam.grown {w w' : World} {B : Nat} {L : List Num} (h : Fam w B L) {B0 e size n : Nat} {v : Value} {xs : List Value} (ho : w.ownsRow B0 e size v n xs) (hg : w.grownBy w' v.ownBlock) (h1 : e ≠ 62) (h2 : e ≠ 80) : Fam w' B L :=
  ⟨fun i b z S hi => ⟨(h.int i b z S hi).1.to fun k hk => hg.block k ((h.int i b z S hi).1.lt k hk) fun he => by
      obtain ⟨cs, hb⟩ := ownsRow_block ho he.symm
      exact (h.int i b z S hi).1.notRow hk h1 h2 hb, (h.int i b z S hi).2⟩, h.sep⟩
/-- A row of another type stays where a number turns. -/
theorem ownsRow_chg {w w' : World} {B0 e size n b : Nat} {v : Value} {xs : List Value} {z : Int} {S : List Nat} (h : w.ownsRow B0 e size v n xs) (hf : IntF w b z S) (hc : Chg S w w') (h1 : e ≠ 62) (h2 : e ≠ 80) : w'.ownsRow B0 e size v n xs := by
  rcases h.2 with h' | ⟨g, cap, cur, rfl, hB, hb, hr⟩
  · exact ⟨h.1, .inl h'⟩
  · have hb' : Blk w g cur e := hb
    exact ⟨h.1, .inr ⟨g, cap, cur, rfl, hB, (hc.block g hb'.lt fun hk => hf.notRow hk h1 h2 hb').trans hb', hr⟩⟩

/-- A row of numbers that share no block. -/
structure RowF (w : World) (B : Nat) (v : Value) (L : List Num) : Prop where
  own : w.ownsRow B 49 1 v L.length (ptrs L)
  fam : Fam w B L
theorem RowF.rowP {w : World} {B : Nat} {v : Value} {L : List Num} (h : RowF w B v L) : RowP w B v (vals L) (ptrs L) :=
  ⟨by simpa [vals] using h.own, fun i hi => by
    have hl : i < L.length := by simpa [vals] using hi
    refine ⟨.pointer (some ⟨L[i].1, 0, none⟩), by simp [ptrs, hl], L[i].1, L[i].2.2, rfl, ?_⟩
    have := h.fam.int i L[i].1 L[i].2.1 L[i].2.2 (by simp [hl])
    simpa [vals] using this⟩
theorem RowF.below {w w' : World} {B : Nat} {v : Value} {L : List Num} (h : RowF w B v L) {B1 : Nat} (hb : Below B1 w w') (hB : w.heap.size ≤ B1) : RowF w' B v L := ⟨ownsRow_below h.own hb hB, h.fam.below hb hB⟩
theorem RowF.nil (w : World) (B : Nat) : RowF w B (.slice none 0 0) [] := ⟨World.ownsRow_nil _ _ _ _, Fam.nil _ _⟩

/-- A new row of numbers that share no block. -/
def RowFNew (w : World) (zs : List Int) (e : Ending) (w' : World) : Prop := ∃ v L, e = .returned v ∧ RowF w' w.heap.size v L ∧ vals L = zs ∧ Below w.heap.size w w'

set_option maxRecDepth 100000 in
set_option maxHeartbeats 1000000 in
theorem ofF_any (v : Value) (zs : List Int) (w : World) (hv : SliceI w v zs) (h64 : I64 zs) (hl : zs.length ≤ 1000000) : Calls Tryz.prog 18 #[v] w (RowFNew w zs) := by
  obtain ⟨o, cap, rfl, hc⟩ := hv
  obtain ⟨i0, hi, hzz⟩ := Option.map_eq_some_iff.1 infoP
  simp only [Prod.mk.injEq] at hzz
  obtain ⟨hz0, hz1, hz2⟩ := hzz
  have HI := Lib.hid hi
  have HZ0 := Lib.hid hz0
  have HZ1 := Lib.hid hz1
  have HZ2 := Lib.hid hz2
  clear hi hz0 hz1 hz2
  obtain ⟨n, hn⟩ : ∃ n, zs.length = n := ⟨_, rfl⟩
  obtain ⟨B0, hB0⟩ : ∃ B0, w.heap.size = B0 := ⟨_, rfl⟩
  rw [hn] at hl ⊢
  have HN := Lib.hid hn
  have HB := Lib.hid hB0
  have HC := Lib.hid hc
  clear hn hB0 hc
  go_enter Tryz.func18, Tryz.ntmps18
  go_wp2
  go_loopw [3, 8] (fun r i wr => ∃ (k : Nat) (L : List Num), k ≤ n ∧ i = .int .i64 k ∧ RowF wr B0 r L ∧ Hid (vals L = zs.take k) ∧ Below B0 w wr) (fun _ i _ => n - (intOf i).toNat)
  case atStart => exact ⟨0, [], Nat.zero_le _, rfl, RowF.nil w B0, rfl, Below.refl _ _⟩
  case round =>
    obtain ⟨k, L, hk, rfl, hrow, hvals, hb⟩ := hrel
    by_cases hlt : k < n
    · have hk' : k < zs.length := by have := HN.out; omega
      obtain ⟨b, off, rfl, hbl, hcs⟩ := HC.out (by intro e; rw [e] at hk'; simp at hk')
      have hcell : wr.cell? ⟨b, off + k, none⟩ = some (.int .i64 zs[k]) := (hb.cell (p := ⟨b, off + k, none⟩) (by have := HB.out; simp; omega)).trans (hcs k hk')
      obtain ⟨z, hz⟩ : ∃ z, zs[k] = z := ⟨_, rfl⟩
      have h64' := h64.get k hk'
      rw [hz] at hcell h64'
      have HZ := Lib.hid hz
      clear hz hcs
      have hlen : L.length = k := by
        have := congrArg List.length hvals.out
        rw [List.length_take] at this
        simp only [vals, List.length_map] at this
        omega
      have HLEN := Lib.hid hlen
      clear hlen
      go_wp2_with fail
      refine (newInt_any z wr h64'.1 h64'.2).mono ?_
      rintro e w1 ⟨bz, S, rfl, hf, hS, hb1⟩
      have hBw : B0 ≤ wr.heap.size := by have := HB.out; have := hb.size; omega
      have hown1 := (hrow.below hb1 (Nat.le_refl _)).own
      have hfam1 := hrow.fam.push hb1 hf hS hBw
      rw [HLEN.out] at hown1
      have hbw1 := hb.trans (hb1.mono hBw)
      go_wp2_with (at_builtin; refine wpList_append_own _ rfl (.tmp 12) (.tmp 15) 47 rfl B0 49 i0 (.pointer none) 1 8 Tryz.underlying47 HI.out HZ0.out HZ1.out HZ2.out rfl (by decide) _ k (ptrs L) rfl (hown1.alloc _) ⟨w1.heap.size, 0, none⟩ 1 1 [.pointer (some ⟨bz, 0, none⟩)] rfl rfl ?c1 ?c2 ?c3 ?c4 ?c5 ?_)
      case c1 =>
        intro j u hj
        match j, hj with
        | 0, hj => simp at hj; subst hj; simp [Addr.add]
      case c2 => intro u hu; simp at hu; subst hu; rfl
      case c3 => unfold maxLen; omega
      case c4 => omega
      case c5 => have := HB.out; have := hbw1.size; simp; omega
      · intro v' w2 hown' hgrow _
        have hpush : RowF w2 B0 v' (L ++ [(bz, z, S)]) := by
          refine ⟨?_, (hfam1.below ((Below.refl w1.heap.size w1).alloc (Nat.le_refl _) _) (Nat.le_refl _)).grown (hown1.alloc _) hgrow (by decide) (by decide)⟩
          have : (L ++ [(bz, z, S)]).length = k + 1 := by simp [HLEN.out]
          rw [this, ptrs, List.map_append]
          exact hown'
        have HV : Hid (vals (L ++ [(bz, z, S)]) = zs.take (k + 1)) := by
          show vals (L ++ [(bz, z, S)]) = zs.take (k + 1)
          rw [List.take_succ_eq_append_getElem hk', HZ.out, ← hvals.out]
          simp [vals]
        have hbw2 : Below B0 w w2 := (hbw1.alloc (by have := HB.out; have := hbw1.size; omega) _).grown hgrow (by have := HB.out; have := hbw1.size; simp; omega) (fun k hk => (hown1.lt k hk).1)
        clear hown' hgrow hown1 hfam1 hrow hbw1 hb1 hb hf hvals
        go_wp2
        go_roundw
        case rel => exact ⟨k + 1, _, by omega, by go_num, hpush, HV, hbw2⟩
        case measure => simp [intOf]; omega
    · obtain rfl : k = n := by omega
      have HV := Lib.hid (show vals L = zs by
        have h := HN.out
        have := hvals.out
        rwa [List.take_of_length_le (by omega)] at this)
      have HR := Lib.hid hrow
      clear hvals hrow
      go_wp2
      go_ret
      refine ⟨_, L, rfl, ?_, HV.out, ?_⟩
      · rw [HB.out]; exact HR.out
      · rw [HB.out]; exact hb
end Go.Proofs.YtggoncneinlpgaaGreatDoor
