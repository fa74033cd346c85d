/- What the listed package-level variables give a walk: the eight sentinels of package api and the handle in errors.errorType. No walk in this file. -/
import Derived.Test.YtggoncneinlpgaaGreatDoorProg
import Derived.WalkKit
import Derived.Deep.Draws
import Derived.LaidEql
import Derived.LaidHandle
import Derived.Stop.Asserts
import Derived.Stop.LaidErr
import Derived.RowKitTokens
import Derived.LaidMore
namespace Go.Proofs.YtggoncneinlpgaaGreatDoor
open Go Go.RowKit

section
variable {P : Program}

/-- A listed sentinel: its variable, its text, and that its place is among the places. -/
theorem laid_member {nm : String} {ti tp te ts : TypeId} {ms : Array (String × TypeId)} {f : Field}
    (hi : P.underlying ti = some (.interface ms)) (hrow : ∀ u, P.typeName? 3 u = some nm → u = tp)
    (hp : P.underlying tp = some (.pointer te)) (he : P.underlying te = some (.struct #[f])) (hft : f.type = ts) (hfo : f.offset = 0) (hs : P.underlying ts = some .string) (hc : P.cellsOf te = 1) (hcs : P.cellsOf ts = 1)
    {W : World} {n : String} {text : List UInt8} {g : Nat} (hg : P.globalNamed n = some g) (ht : (P.globals[g]?).map (·.type) = some ti) :
    ∀ (L : List (String × DataW Unit)) (ps : List MemPlace), DataW.LaidVars P W L ps →
      (∀ b off, MemPlace.cell b off ∈ ps → (∃ c t, W.heap[b]? = some (.cells c t (0, 0))) ∧ ∀ u v, W.cell? ⟨b, off, none⟩ = some (.iface u v) → Value.okWide P W .any 0 u v) →
      (n, DataW.iface nm (.ptr (.agg [.lit (.string text)]))) ∈ L →
      ∃ (a : Addr) (s : ByteArray), W.var? P n = some #[.iface tp (.pointer (some a))] ∧ W.cell? a = some (.string s) ∧ s.data.toList = text ∧ MemPlace.cell a.block a.off ∈ ps ∧ (∃ c t, W.heap[a.block]? = some (.cells c t (0, 0))) := by
  intro L
  induction L with
  | nil => intro ps _ _ hm; cases hm
  | cons x r ih =>
    intro ps hv hrows hm
    obtain ⟨n', d⟩ := x
    obtain ⟨g0, t0, cs0, f0, p0, q0, hg0, ht0, hv0, hd0, hq, rfl⟩ := hv
    rcases List.mem_cons.1 hm with e | hm
    · cases e
      obtain rfl := Option.some.inj (hg.symm.trans hg0)
      obtain rfl := Option.some.inj (ht.symm.trans ht0)
      obtain ⟨l0⟩ := cs0
      have ok0 : ∀ u v, l0 = [.iface u v] → Value.okWide P W .any 0 u v := fun u v e => by
        subst e
        exact (hrows g 0 (by simp [MemPlace.row])).2 u v (by simpa using World.var?_cell hg0 hv0 0)
      obtain ⟨a0, s0, rfl, hc0, hs0, hz0, rfl⟩ := errorString_of_trod hi hrow hp he hft hfo hs hc hcs hd0 ok0
      have hm0 : MemPlace.cell a0.block a0.off ∈ MemPlace.row ⟨g, 0, none⟩ (#[Value.iface tp (.pointer (some a0))]).size ++ MemPlace.row a0 1 ++ q0 := by simp [MemPlace.row]
      exact ⟨a0, s0, hv0, hc0, hs0, hm0, (hrows _ _ hm0).1⟩
    · obtain ⟨a, s, h1, h2, h3, h4, h5⟩ := ih q0 hq (fun b off h => hrows b off (List.mem_append_right _ h)) hm
      exact ⟨a, s, h1, h2, h3, List.mem_append_right _ h4, h5⟩

/-- Two listed sentinels are different pointers. -/
theorem laid_differ {nm : String} {ti tp te ts : TypeId} {ms : Array (String × TypeId)} {f : Field}
    (hi : P.underlying ti = some (.interface ms)) (hrow : ∀ u, P.typeName? 3 u = some nm → u = tp)
    (hp : P.underlying tp = some (.pointer te)) (he : P.underlying te = some (.struct #[f])) (hft : f.type = ts) (hfo : f.offset = 0) (hs : P.underlying ts = some .string) (hc : P.cellsOf te = 1) (hcs : P.cellsOf ts = 1)
    {W : World} {n m : String} {text text' : List UInt8} {g k : Nat} (hg : P.globalNamed n = some g) (ht : (P.globals[g]?).map (·.type) = some ti) (hgm : P.globalNamed m = some k) (htm : (P.globals[k]?).map (·.type) = some ti) {a b : Addr}
    (ha : W.var? P n = some #[.iface tp (.pointer (some a))]) (hb : W.var? P m = some #[.iface tp (.pointer (some b))]) :
    ∀ (L : List (String × DataW Unit)) (ps : List MemPlace), DataW.LaidVars P W L ps → ps.Nodup →
      (∀ b off, MemPlace.cell b off ∈ ps → (∃ c t, W.heap[b]? = some (.cells c t (0, 0))) ∧ ∀ u v, W.cell? ⟨b, off, none⟩ = some (.iface u v) → Value.okWide P W .any 0 u v) →
      List.Sublist [(n, DataW.iface nm (.ptr (.agg [.lit (.string text)]))), (m, DataW.iface nm (.ptr (.agg [.lit (.string text')])))] L → a ≠ b := by
  intro L
  induction L with
  | nil => intro ps _ _ _ hm; cases hm
  | cons x r ih =>
    intro ps hv hnd hrows hm
    obtain ⟨n', d⟩ := x
    obtain ⟨g0, t0, cs0, f0, p0, q0, hg0, ht0, hv0, hd0, hq, rfl⟩ := hv
    have hrows' : ∀ b off, MemPlace.cell b off ∈ q0 → (∃ c t, W.heap[b]? = some (.cells c t (0, 0))) ∧ ∀ u v, W.cell? ⟨b, off, none⟩ = some (.iface u v) → Value.okWide P W .any 0 u v := fun b off h => hrows b off (List.mem_append_right _ h)
    cases hm with
    | cons _ hm => exact ih q0 hq (List.Nodup.sublist (List.sublist_append_right _ _) hnd) hrows' hm
    | cons_cons _ hm =>
      have hmem : (m, DataW.iface nm (.ptr (.agg [.lit (.string text')]))) ∈ r := hm.subset (by simp)
      obtain ⟨b', s', h1, _, _, h4, _⟩ := laid_member hi hrow hp he hft hfo hs hc hcs hgm htm r q0 hq hrows' hmem
      have eb : b' = b := by
        have := Option.some.inj (h1.symm.trans hb)
        simpa using this
      subst eb
      obtain rfl := Option.some.inj (hg.symm.trans hg0)
      obtain rfl := Option.some.inj (ht.symm.trans ht0)
      obtain rfl := Option.some.inj (ha.symm.trans hv0)
      have ok0 : ∀ u v, [Value.iface tp (.pointer (some a))] = [.iface u v] → Value.okWide P W .any 0 u v := fun u v e => by
        exact (hrows g 0 (by simp [MemPlace.row])).2 u v (by rw [← (List.cons.inj e).1]; simpa using World.var?_cell hg0 hv0 0)
      obtain ⟨a0, s0, e0, hc0, hs0, hz0, rfl⟩ := errorString_of_trod hi hrow hp he hft hfo hs hc hcs hd0 ok0
      have ea : a0 = a := by simpa using e0.symm
      subst ea
      rintro rfl
      have hd : MemPlace.cell a0.block a0.off ∈ MemPlace.row ⟨g, 0, none⟩ (#[Value.iface tp (.pointer (some a0))]).size ++ MemPlace.row a0 1 := by simp [MemPlace.row]
      exact (List.nodup_append.1 hnd).2.2 _ hd _ h4 rfl
end

/-- The eight variables of package api, by number. -/
def egL : List Nat := [2, 1, 0, 3, 4, 5, 6, 7]
def enL : List String := ["raycone/api.ErrText", "raycone/api.ErrBound", "raycone/api.ErrShape", "raycone/api.ErrEmpty", "raycone/api.ErrName", "raycone/api.ErrNone", "raycone/api.ErrOrder", "raycone/api.ErrProof"]
def etL : List (List UInt8) := [[114, 97, 121, 99, 111, 110, 101, 58, 32, 116, 101, 120, 116], [114, 97, 121, 99, 111, 110, 101, 58, 32, 98, 111, 117, 110, 100], [114, 97, 121, 99, 111, 110, 101, 58, 32, 115, 104, 97, 112, 101], [114, 97, 121, 99, 111, 110, 101, 58, 32, 101, 109, 112, 116, 121], [114, 97, 121, 99, 111, 110, 101, 58, 32, 110, 97, 109, 101], [114, 97, 121, 99, 111, 110, 101, 58, 32, 110, 111, 110, 101], [114, 97, 121, 99, 111, 110, 101, 58, 32, 111, 114, 100, 101, 114], [114, 97, 121, 99, 111, 110, 101, 58, 32, 112, 114, 111, 111, 102]]

def eg (i : Nat) : Nat := egL.getD i 0
def en (i : Nat) : String := enL.getD i ""
def etx (i : Nat) : List UInt8 := etL.getD i []

/-- What a world's package-level variables hold: the handle; the i-th sentinel's pointer is a i, to a row of its own. -/
structure ErrW (w : World) (a : Nat → Addr) : Prop where
  et : w.cell? ⟨8, 0, none⟩ = some (.iface 125 (.agg #[.pointer (some ⟨25, 29, none⟩)]))
  var : ∀ i, i < 8 → w.cell? ⟨eg i, 0, none⟩ = some (.iface 345 (.pointer (some (a i))))
  str : ∀ i, i < 8 → ∃ s, w.cell? (a i) = some (.string s) ∧ s.data.toList = etx i
  blk : ∀ i, i < 8 → ∃ c t, w.heap[(a i).block]? = some (.cells c t (0, 0))
  ne : ∀ i j, i < 8 → j < 8 → i ≠ j → a i ≠ a j

theorem cell_lt {w : World} {a : Addr} {v : Value} (h : w.cell? a = some v) : a.block < w.heap.size := by
  rcases Nat.lt_or_ge a.block w.heap.size with h1 | h1
  · exact h1
  · simp [World.cell?, Array.getElem?_eq_none h1] at h
theorem cell_below {w w' : World} {B : Nat} (hb : Below B w w') (hB : w.heap.size ≤ B) {a : Addr} {v : Value} (h : w.cell? a = some v) : w'.cell? a = some v :=
  (hb.cell (p := a) (by have := cell_lt h; omega)).trans h
theorem heap_lt {w : World} {b : Nat} {o : Obj} (h : w.heap[b]? = some o) : b < w.heap.size := by
  rcases Nat.lt_or_ge b w.heap.size with h1 | h1
  · exact h1
  · rw [Array.getElem?_eq_none h1] at h; cases h

theorem ErrW.below {w w' : World} {a : Nat → Addr} (h : ErrW w a) {B : Nat} (hb : Below B w w') (hB : w.heap.size ≤ B) : ErrW w' a :=
  ⟨cell_below hb hB h.et, fun i hi => cell_below hb hB (h.var i hi),
    fun i hi => by obtain ⟨s, h1, h2⟩ := h.str i hi; exact ⟨s, cell_below hb hB h1, h2⟩,
    fun i hi => by obtain ⟨c, t, h1⟩ := h.blk i hi; exact ⟨c, t, (hb.block _ (by have := heap_lt h1; omega)).trans h1⟩, h.ne⟩

theorem rt_cut : (Tryz.prog.cutTypes.find? (·.1 == "internal/reflectlite.rtype")).map (·.2) = some 125 := by kernel_rfl
theorem e_rowNamed : ((List.range Tryz.prog.types.size).filter fun t => Tryz.prog.rowNamed t [101, 114, 114, 111, 114]) = [29] := by kernel_rfl
theorem e_handle : typeHandle Tryz.prog 29 = .pointer (some ⟨25, 29, none⟩) := by kernel_rfl
theorem e_global : Tryz.prog.globalNamed "errors.errorType" = some 8 := by kernel_rfl
theorem e_star : "*" ++ "errors.errorString" = "*errors.errorString" := by decide
theorem e_row (u : TypeId) (h : Tryz.prog.typeName? 3 u = some "*errors.errorString") : u = 345 :=
  typeName_ptr_named (nm := "errors.errorString") (by rw [e_star]; kernel_rfl) (by kernel_rfl) (by decide) u (by rw [e_star]; exact h)
theorem e_cells : Tryz.prog.cellsOf 370 = 1 := by kernel_rfl
theorem e_cells' : Tryz.prog.cellsOf 9 = 1 := by kernel_rfl
theorem egs : enL.map Tryz.prog.globalNamed = egL.map some := by kernel_rfl
theorem egt : (egL.map fun g => (Tryz.prog.globals[g]?).map (·.type)) = List.replicate 8 (some 29) := by kernel_rfl

def sents : List (String × DataW Unit) := (List.range 8).map fun i => (en i, DataW.iface "*errors.errorString" (.ptr (.agg [.lit (.string (etx i))])))

theorem pair_sub {α : Type} (l : List α) (i j : Nat) (hij : i < j) (hj : j < l.length) : List.Sublist [l[i], l[j]] l := by
  have h : l.take j ++ l.drop j = l := List.take_append_drop _ _
  have h1 : List.Sublist [l[i]] (l.take j) := List.singleton_sublist.2 (List.mem_take_iff_getElem.2 ⟨i, by omega, rfl⟩)
  have h2 : List.Sublist [l[j]] (l.drop j) := by
    rw [List.drop_eq_getElem_cons hj]
    exact List.Sublist.cons_cons _ (List.nil_sublist _)
  have := h1.append h2
  rw [h] at this
  exact this

theorem eg_at (i : Nat) (h : i < 8) : Tryz.prog.globalNamed (en i) = some (eg i) ∧ (Tryz.prog.globals[eg i]?).map (·.type) = some 29 := by
  have h1 := congrArg (·[i]?) egs
  have h2 := congrArg (·[i]?) egt
  simp only [List.getElem?_map] at h1 h2
  have e1 : enL[i]? = some (en i) := by
    rw [en, List.getD_eq_getElem?_getD, List.getElem?_eq_getElem (l := enL) (i := i) (by exact h)]; rfl
  have e2 : egL[i]? = some (eg i) := by
    rw [eg, List.getD_eq_getElem?_getD, List.getElem?_eq_getElem (l := egL) (i := i) (by exact h)]; rfl
  rw [e1, e2] at h1
  rw [e2, List.getElem?_replicate, if_pos h] at h2
  simp only [Option.map_some, Option.some.injEq] at h1 h2
  exact ⟨h1, h2⟩

/-- What the condition on the listed variables gives a walk. -/
theorem errW_of_laid {W : World} {L : List (String × DataW Unit)} (h : laidMetH Tryz.prog L W)
    (hh : ("errors.errorType", DataW.iface "internal/reflectlite.rtype" (.agg [.ptr (.lit (.string [101, 114, 114, 111, 114]))])) ∈ L)
    (hs : List.Sublist sents (L.filter fun x => x.2.handleName?.isNone)) : ∃ a, ErrW W a := by
  have h' : laidMet Tryz.prog (L.filter fun x => x.2.handleName?.isNone) W ∧ handlesMet Tryz.prog (L.filter fun x => x.2.handleName?.isSome) W := by
    unfold laidMetH at h
    split at h
    · rename_i e
      have : ("errors.errorType", DataW.iface "internal/reflectlite.rtype" (.agg [.ptr (.lit (.string [101, 114, 114, 111, 114]))])) ∈ L.filter fun x => x.2.handleName?.isSome := List.mem_filter.2 ⟨hh, by rfl⟩
      rw [e] at this
      cases this
    · rename_i e
      rw [e]
      exact h
  have het : W.cell? ⟨8, 0, none⟩ = some (.iface 125 (.agg #[.pointer (some ⟨25, 29, none⟩)])) := by
    obtain ⟨name, u, ty, e1, e2, e3, e4, e5⟩ := h'.2 _ (List.mem_filter.2 ⟨hh, by rfl⟩)
    have en : name = [101, 114, 114, 111, 114] := (Option.some.inj e1).symm
    subst en
    obtain rfl := Option.some.inj (rt_cut.symm.trans e2)
    have hm : ty ∈ (List.range Tryz.prog.types.size).filter fun t => Tryz.prog.rowNamed t [101, 114, 114, 111, 114] := List.mem_filter.2 ⟨List.mem_range.2 e3, e4⟩
    rw [e_rowNamed] at hm
    obtain rfl := List.mem_singleton.1 hm
    rw [e_handle] at e5
    simpa using World.var?_cell e_global e5 0
  obtain ⟨ps, hv, hnd, hrows⟩ := h'.1
  have hlen : sents.length = 8 := rfl
  have hmem : ∀ i (hi : i < 8), (en i, DataW.iface "*errors.errorString" (.ptr (.agg [.lit (.string (etx i))]))) = sents[i]'(by rw [hlen]; exact hi) := fun i hi => by
    simp [sents]
  have H : ∀ i : Fin 8, ∃ a : Addr, W.var? Tryz.prog (en i.1) = some #[.iface 345 (.pointer (some a))] ∧ (∃ s, W.cell? a = some (.string s) ∧ s.data.toList = etx i.1) ∧ (∃ c t, W.heap[a.block]? = some (.cells c t (0, 0))) := fun i => by
    obtain ⟨hg, ht⟩ := eg_at i.1 i.2
    obtain ⟨a, s, h1, h2, h3, _, h5⟩ := laid_member Tryz.underlying29 e_row Tryz.underlying345 Tryz.underlying370 rfl rfl Tryz.underlying9 e_cells e_cells' hg ht _ ps hv hrows (text := etx i.1) (hs.subset (by rw [hmem i.1 i.2]; exact List.getElem_mem _))
    exact ⟨a, h1, ⟨s, h2, h3⟩, h5⟩
  obtain ⟨a, ha⟩ := Classical.axiomOfChoice H
  have hlt : ∀ i j (hi : i < 8) (hj : j < 8), i < j → a ⟨i, hi⟩ ≠ a ⟨j, hj⟩ := fun i j hi hj hij => by
    obtain ⟨hg, ht⟩ := eg_at i hi
    obtain ⟨hg', ht'⟩ := eg_at j hj
    refine laid_differ Tryz.underlying29 e_row Tryz.underlying345 Tryz.underlying370 rfl rfl Tryz.underlying9 e_cells e_cells' hg ht hg' ht' (ha ⟨i, hi⟩).1 (ha ⟨j, hj⟩).1 _ ps hv hnd hrows (text := etx i) (text' := etx j) ?_
    rw [hmem i hi, hmem j hj]
    exact (pair_sub sents i j hij (by rw [hlen]; exact hj)).trans hs
  refine ⟨fun i => if h : i < 8 then a ⟨i, h⟩ else default, het, fun i hi => ?_, fun i hi => ?_, fun i hi => ?_, fun i j hi hj hne => ?_⟩
  · rw [dif_pos hi]
    simpa using World.var?_cell (eg_at i hi).1 (ha ⟨i, hi⟩).1 0
  · rw [dif_pos hi]
    exact (ha ⟨i, hi⟩).2.1
  · rw [dif_pos hi]
    exact (ha ⟨i, hi⟩).2.2
  · rw [dif_pos hi, dif_pos hj]
    rcases Nat.lt_or_ge i j with h1 | h1
    · exact hlt i j hi hj h1
    · exact (hlt j i hj hi (by omega)).symm
end Go.Proofs.YtggoncneinlpgaaGreatDoor
