/- The plain law of farkas.Check's sums; what one step of its inner loop turns. The inner loop's first state. The plain law of FarkasCheck: the sums and the answer, as the law reckons them. Walks of the reference: Pivot and Zero of a row of ints. The plain law of FarkasCheck, its tame numbers; the sums' row in memory. -/
import Derived.Test.YtochcofoknfjfaaGreatDoorRowF
import Derived.Test.YtochcofoknfjfaaGreatDoorP56
import Derived.Test.YtochcofoknfjfaaGreatDoorK1
import Derived.Test.YtochcofoknfjfaaGreatDoorC3
import Derived.Test.YtochcofoknfjfaaGreatDoorP3
namespace Go.Proofs.YtochcofoknfjfaaGreatDoor
open Go Go.RowKit Nt

def rowN (r : RowZ) : List Int := r.a ++ [r.b]
def addW (s : List Int) (t : Int) (xs : List Int) : List Int := List.zipWith (fun s x => s + x * t) s xs
/-- The sums of the first k rows times their weights. -/
def sumK (d : Nat) (rs : List RowZ) (ws : List Int) : Nat → List Int
  | 0 => List.replicate (d + 1) 0
  | k + 1 => addW (sumK d rs ws k) (ws.getD k 0) (rowN (rs.getD k ⟨false, [], 0⟩))

theorem addW_length {s xs : List Int} (t : Int) (h : s.length = xs.length) : (addW s t xs).length = s.length := by simp [addW]; omega
theorem addW_get {s xs : List Int} {t : Int} {k : Nat} (h1 : k < s.length) (h2 : k < xs.length) : (addW s t xs)[k]? = some (s[k] + xs[k] * t) := by
  rw [List.getElem?_eq_getElem (by simp [addW]; omega)]
  simp [addW]
theorem sumK_length {d : Nat} {rs : List RowZ} {ws : List Int} (h : ∀ r ∈ rs, r.a.length = d) : ∀ k, k ≤ rs.length → (sumK d rs ws k).length = d + 1 := by
  intro k
  induction k with
  | zero => intro _; simp [sumK]
  | succ k ih =>
    intro hk
    have h1 := ih (by omega)
    have h2 : (rowN (rs.getD k ⟨false, [], 0⟩)).length = d + 1 := by
      rw [List.getD_eq_getElem?_getD, List.getElem?_eq_getElem (by omega)]
      simp [rowN, h _ (List.getElem_mem (show k < rs.length by omega))]
    simp only [sumK]
    rw [addW_length _ (by omega), h1]
/-- The greatest product: 2^93. -/
theorem wprod {x t : Int} (hx : x.natAbs ≤ 2147483648) (ht : t.natAbs ≤ 4611686018427387904) : (x * t).natAbs ≤ 9903520314283042199192993792 := by
  rw [Int.natAbs_mul]
  exact Nat.mul_le_mul hx ht
theorem addW_bound {s xs : List Int} {t : Int} {M : Nat} (hs : ∀ z ∈ s, z.natAbs ≤ M) (hx : Half xs) (ht : t.natAbs ≤ 4611686018427387904) : ∀ z ∈ addW s t xs, z.natAbs ≤ M + 9903520314283042199192993792 := by
  intro z hz
  unfold addW at hz
  obtain ⟨i, hi, rfl⟩ := List.getElem_of_mem hz
  simp only [List.getElem_zipWith]
  simp only [List.length_zipWith] at hi
  have h1 := hs _ (List.getElem_mem (show i < s.length by omega))
  have h2 := wprod (hx _ (List.getElem_mem (show i < xs.length by omega))) ht
  have := Int.natAbs_add_le s[i] (xs[i] * t)
  omega
theorem sumK_bound {d : Nat} {rs : List RowZ} {ws : List Int} (hr : ∀ r ∈ rs, Half (rowN r)) (hw : ∀ t ∈ ws, t.natAbs ≤ 4611686018427387904) : ∀ k, k ≤ rs.length → k ≤ ws.length → ∀ z ∈ sumK d rs ws k, z.natAbs ≤ k * 9903520314283042199192993792 := by
  intro k
  induction k with
  | zero => intro _ _ z hz; simp [sumK] at hz; simp [hz]
  | succ k ih =>
    intro h1 h2 z hz
    have h3 : rs.getD k ⟨false, [], 0⟩ = rs[k]'(by omega) := by rw [List.getD_eq_getElem?_getD, List.getElem?_eq_getElem (by omega)]; rfl
    have h4 : ws.getD k 0 = ws[k]'(by omega) := by rw [List.getD_eq_getElem?_getD, List.getElem?_eq_getElem (by omega)]; rfl
    simp only [sumK] at hz
    rw [h3, h4] at hz
    have := addW_bound (ih (by omega) (by omega)) (hr _ (List.getElem_mem (show k < rs.length by omega))) (hw _ (List.getElem_mem (show k < ws.length by omega))) z hz
    omega

/-- What Check tells where there is no error. -/
def Holds (d : Nat) (rs : List RowZ) (r : RowZ) (ws : List Int) (den : Int) : Prop :=
  (∀ i (h : i < rs.length) (h' : i < ws.length), ¬ (ws[i] < 0 ∧ rs[i].eq = false)) ∧
  ((allZ ((sumK d rs ws rs.length).take d) = true ∧ 0 < (sumK d rs ws rs.length).getD d 0) ∨
   ((∀ k (h : k < d), (sumK d rs ws rs.length).getD k 0 = den * r.a.getD k 0) ∧ den * r.b ≤ (sumK d rs ws rs.length).getD d 0))

/-- The inner loop's state ahead of round k: the sums' row and the products' row. -/
structure Inn (w : World) (B d : Nat) (vs va : Value) (bw : Nat) (t : Int) (Sw : List Nat) (s xs : List Int) (k : Nat) (LS LA : List Num) : Prop where
  fam : Fam w B (LS ++ (bw, t, Sw) :: LA)
  os : w.ownsRow B 67 1 vs (d + 1) (ptrs LS)
  oa : w.ownsRow B 67 1 va (d + 1) (ptrs LA)
  vals : vals LS = (addW s t xs).take k ++ s.drop k
  news : ∀ j, k ≤ j → (LA.map fun e => e.2.1)[j]? = xs[j]?

theorem ptrs_set {L : List Num} {k b : Nat} {z z' : Int} {S S' : List Nat} (h : L[k]? = some (b, z, S)) : ptrs (L.set k (b, z', S')) = ptrs L := by
  unfold ptrs
  apply List.ext_getElem?
  intro i
  by_cases e : i = k
  · subst e
    have := (List.getElem?_eq_some_iff.1 h).1
    rw [List.getElem?_map, List.getElem?_set_self this, List.getElem?_map, h]
    rfl
  · simp [List.getElem?_map, List.getElem?_set_ne (fun h => e h.symm)]
theorem own_length {w : World} {B e n : Nat} {v : Value} {L : List Num} (h : w.ownsRow B e 1 v n (ptrs L)) : L.length = n := by
  have := h.1
  simpa [ptrs] using this
/-- The cell of a row of the call's own. -/
theorem own_cell {w : World} {B e n k : Nat} {v : Value} {xs : List Value} (h : w.ownsRow B e 1 v n xs) (hk : k < n) : ∃ g cap u, v = .slice (some ⟨g, 0, none⟩) n cap ∧ g < w.heap.size ∧ xs[k]? = some u ∧ w.cell? ⟨g, k, none⟩ = some u ∧ n ≤ cap := by
  have hl : xs.length = n := by have := h.1; omega
  rcases h.2 with ⟨_, hn⟩ | ⟨g, cap, cur, rfl, hB, hb, h1, h2, h3, h4⟩
  · omega
  · refine ⟨g, cap, xs[k]'(by omega), rfl, (show Blk w g cur _ from hb).lt, by simp [hl, hk], ?_, h1⟩
    rw [(show Blk w g cur _ from hb).cell, ← Array.getElem?_toList]
    have : (cur.toList.take (n * 1))[k]? = xs[k]? := by rw [h4]
    rw [List.getElem?_take_of_lt (by omega)] at this
    rw [this]
    simp [hl, hk]
theorem Inn.get {w : World} {B d bw k : Nat} {vs va : Value} {t : Int} {Sw : List Nat} {s xs : List Int} {LS LA : List Num} (h : Inn w B d vs va bw t Sw s xs k LS LA) (hs : s.length = d + 1) (hx : xs.length = d + 1) (hk : k < d + 1) :
    ∃ gs cs ga ca bs ba Ss Sa, vs = .slice (some ⟨gs, 0, none⟩) (d + 1) cs ∧ va = .slice (some ⟨ga, 0, none⟩) (d + 1) ca ∧ gs < w.heap.size ∧ ga < w.heap.size ∧
      w.cell? ⟨gs, k, none⟩ = some (.pointer (some ⟨bs, 0, none⟩)) ∧ w.cell? ⟨ga, k, none⟩ = some (.pointer (some ⟨ba, 0, none⟩)) ∧
      LS[k]? = some (bs, s[k], Ss) ∧ LA[k]? = some (ba, xs[k], Sa) ∧ IntF w bs s[k] Ss ∧ IntF w ba xs[k] Sa ∧ IntF w bw t Sw ∧ ba ≠ bw := by
  have hLS := own_length h.os
  have hLA := own_length h.oa
  obtain ⟨gs, cs, u, rfl, hgs, hu, hcs, _⟩ := own_cell h.os hk
  obtain ⟨ga, ca, u', rfl, hga, hu', hca, _⟩ := own_cell h.oa hk
  have e1 : LS[k]? = some LS[k] := by simp
  have e2 : LA[k]? = some LA[k] := by simp
  have v1 : LS[k].2.1 = s[k] := by
    have := congrArg (fun l => l[k]?) h.vals
    have hlk : ((addW s t xs).take k).length = k := by rw [List.length_take, addW_length _ (by omega)]; omega
    simp only [Go.Proofs.YtochcofoknfjfaaGreatDoor.vals, List.getElem?_map, e1, Option.map_some] at this
    rw [List.getElem?_append_right (by omega), hlk, Nat.sub_self, List.getElem?_drop, Nat.add_zero, List.getElem?_eq_getElem (by omega)] at this
    exact Option.some.inj this
  have v2 : LA[k].2.1 = xs[k] := by
    have := h.news k (Nat.le_refl _)
    rw [List.getElem?_map, e2, List.getElem?_eq_getElem (by omega)] at this
    exact Option.some.inj this
  have f1 : LS[k]? = some (LS[k].1, s[k], LS[k].2.2) := by rw [e1, ← v1]
  have f2 : LA[k]? = some (LA[k].1, xs[k], LA[k].2.2) := by rw [e2, ← v2]
  have i1 : (LS ++ (bw, t, Sw) :: LA)[k]? = some (LS[k].1, s[k], LS[k].2.2) := by rw [List.getElem?_append_left (by omega)]; exact f1
  have i2 : (LS ++ (bw, t, Sw) :: LA)[d + 1]? = some (bw, t, Sw) := by rw [List.getElem?_append_right (by omega), hLS]; simp
  have i3 : (LS ++ (bw, t, Sw) :: LA)[d + 1 + 1 + k]? = some (LA[k].1, xs[k], LA[k].2.2) := by
    rw [List.getElem?_append_right (by omega), hLS, show d + 1 + 1 + k - (d + 1) = k + 1 by omega, List.getElem?_cons_succ]; exact f2
  refine ⟨gs, cs, ga, ca, LS[k].1, LA[k].1, LS[k].2.2, LA[k].2.2, rfl, rfl, hgs, hga, ?_, ?_, f1, f2, (h.fam.int _ _ _ _ i1).1, (h.fam.int _ _ _ _ i3).1, (h.fam.int _ _ _ _ i2).1, fun e => ?_⟩
  · rw [hcs, ← hu, ptrs, List.getElem?_map, e1]; rfl
  · rw [hca, ← hu', ptrs, List.getElem?_map, e2]; rfl
  · have h3 := (h.fam.int _ _ _ _ i3).1.head
    rw [e] at h3
    exact h.fam.sep _ _ _ _ _ _ _ _ (by omega) i3 i2 _ h3 (h.fam.int _ _ _ _ i2).1.head

/-- Behind the product: the state, with the product in the place of the row's number. -/
theorem Inn.mul {w w1 : World} {B d bw k ba : Nat} {vs va : Value} {t x z : Int} {Sw Sa S1 : List Nat} {s xs : List Int} {LS LA : List Num} (h : Inn w B d vs va bw t Sw s xs k LS LA) (ha : LA[k]? = some (ba, x, Sa)) (hz : IntF w1 ba z S1)
    (hs : ∀ j, j ∈ S1 → j ∈ Sa ∨ w.heap.size ≤ j) (hc : Chg Sa w w1) :
    Fam w1 B (LS ++ (bw, t, Sw) :: LA.set k (ba, z, S1)) ∧ w1.ownsRow B 67 1 vs (d + 1) (ptrs LS) ∧ w1.ownsRow B 67 1 va (d + 1) (ptrs LA) := by
  have hLS := own_length h.os
  have i3 : (LS ++ (bw, t, Sw) :: LA)[d + 1 + 1 + k]? = some (ba, x, Sa) := by
    rw [List.getElem?_append_right (by omega), hLS, show d + 1 + 1 + k - (d + 1) = k + 1 by omega, List.getElem?_cons_succ]; exact ha
  have hf := (h.fam.int _ _ _ _ i3).1
  refine ⟨?_, ownsRow_chg h.os hf hc (by decide) (by decide), ownsRow_chg h.oa hf hc (by decide) (by decide)⟩
  have := h.fam.set i3 hz hs hc
  rwa [List.set_append_right _ _ (by omega), hLS, show d + 1 + 1 + k - (d + 1) = k + 1 by omega, List.set_cons_succ] at this
/-- Behind the sum: the next round's state. -/
theorem Inn.add {w w1 w2 : World} {B d bw k ba bs : Nat} {vs va : Value} {t x y : Int} {Sw Sa Ss S1 S2 : List Nat} {s xs : List Int} {LS LA : List Num} (h : Inn w B d vs va bw t Sw s xs k LS LA) (hk : k < d + 1) (hsl : s.length = d + 1) (hxl : xs.length = d + 1)
    (ha : LA[k]? = some (ba, x, Sa)) (hb : LS[k]? = some (bs, y, Ss))
    (hf : Fam w1 B (LS ++ (bw, t, Sw) :: LA.set k (ba, x * t, S1)) ∧ w1.ownsRow B 67 1 vs (d + 1) (ptrs LS) ∧ w1.ownsRow B 67 1 va (d + 1) (ptrs LA))
    (hz : IntF w2 bs (y + x * t) S2) (hs : ∀ j, j ∈ S2 → j ∈ Ss ∨ w1.heap.size ≤ j) (hc : Chg Ss w1 w2) (hx : x = xs[k]'(by omega)) (hy : y = s[k]'(by omega)) :
    Inn w2 B d vs va bw t Sw s xs (k + 1) (LS.set k (bs, y + x * t, S2)) (LA.set k (ba, x * t, S1)) := by
  obtain ⟨hf, h1, h2⟩ := hf
  have hLS := own_length h.os
  have hLA := own_length h.oa
  have i1 : (LS ++ (bw, t, Sw) :: LA.set k (ba, x * t, S1))[k]? = some (bs, y, Ss) := by rw [List.getElem?_append_left (by omega)]; exact hb
  have hfb := (hf.int _ _ _ _ i1).1
  refine ⟨?_, ?_, ?_, ?_, ?_⟩
  · have := hf.set i1 hz hs hc
    rwa [List.set_append_left _ _ (by omega)] at this
  · rw [ptrs_set hb]; exact ownsRow_chg h1 hfb hc (by decide) (by decide)
  · rw [ptrs_set ha]; exact ownsRow_chg h2 hfb hc (by decide) (by decide)
  · have hA : (addW s t xs).length = d + 1 := by rw [addW_length _ (by omega), hsl]
    have hk1 : k < (addW s t xs).length := by omega
    have hg : (addW s t xs)[k] = y + x * t := by
      have := addW_get (t := t) (show k < s.length by omega) (show k < xs.length by omega)
      rw [List.getElem?_eq_getElem hk1] at this
      rw [Option.some.inj this, hx, hy]
    unfold Go.Proofs.YtochcofoknfjfaaGreatDoor.vals
    rw [List.map_set]
    have hv := h.vals
    unfold Go.Proofs.YtochcofoknfjfaaGreatDoor.vals at hv
    rw [hv, List.set_append_right _ _ (by rw [List.length_take]; omega), List.take_succ_eq_append_getElem hk1, hg, List.append_assoc]
    congr 1
    rw [List.length_take, show k - min k (addW s t xs).length = 0 by omega, List.drop_eq_getElem_cons (show k < s.length by omega)]
    rfl
  · intro j hj
    have := h.news j (by omega)
    rw [List.map_set, List.getElem?_set_ne (by omega)]
    exact this
end Go.Proofs.YtochcofoknfjfaaGreatDoor
namespace Go.Proofs.YtochcofoknfjfaaGreatDoor
open Go Go.RowKit Nt

theorem own_base {w : World} {b1 b2 e size n : Nat} {v : Value} {xs : List Value} (h : w.ownsRow b2 e size v n xs) (hb : b1 ≤ b2) : w.ownsRow b1 e size v n xs := by
  rcases h.2 with h' | ⟨g, cap, cur, e1, hg, hr⟩
  · exact ⟨h.1, .inl h'⟩
  · exact ⟨h.1, .inr ⟨g, cap, cur, e1, by omega, hr⟩⟩

theorem innStart {w4 w5 w6 w7 : World} {o : Obj} {B d bw bn : Nat} {vs va v' : Value} {t : Int} {Sw Sn : List Nat} {s : List Int} {R : RowZ} {LS LA : List Num}
    (hf4 : Fam w4 B (LS ++ [(bw, t, Sw)])) (ho4 : w4.ownsRow B 67 1 vs LS.length (ptrs LS)) (hls : LS.length = d + 1) (hvs : vals LS = s)
    (hB : B ≤ w4.heap.size) (hb45 : Below w4.heap.size w4 w5) (hrow5 : RowF w5 w4.heap.size va LA) (hvals5 : vals LA = R.a)
    (hb6 : Below w5.heap.size w5 w6) (hfn : IntF w6 bn R.b Sn) (hSn : ∀ k ∈ Sn, w5.heap.size ≤ k)
    (hown7 : w7.ownsRow w4.heap.size 67 1 v' (d + 1) (ptrs LA ++ [.pointer (some ⟨bn, 0, none⟩)])) (hgrow : (w6.alloc o).grownBy w7 va.ownBlock) :
    Inn w7 B d vs v' bw t Sw s (rowN R) 0 LS (LA ++ [(bn, R.b, Sn)]) := by
  have hb46 := hb45.trans (hb6.mono hb45.size)
  have hown6 : (w6.alloc o).ownsRow w4.heap.size 67 1 va LA.length (ptrs LA) := (ownsRow_below hrow5.own hb6 (Nat.le_refl _)).alloc _
  have fM : Fam w6 w4.heap.size (LA ++ [(bn, R.b, Sn)]) := hrow5.fam.push hb6 hfn hSn hb45.size
  have fL : Fam w6 B (LS ++ [(bw, t, Sw)]) := hf4.below hb46 (Nat.le_refl _)
  have fJ := fL.join fM (fun i b z S e k hk => hf4.lt _ _ _ _ e k hk) hB
  have fG := (fJ.below ((Below.refl w6.heap.size w6).alloc (Nat.le_refl _) o) (Nat.le_refl _)).grown hown6 hgrow (by decide) (by decide)
  rw [List.append_assoc] at fG
  refine ⟨fG, ?_, ?_, ?_, ?_⟩
  · have ho := ((ownsRow_below ho4 hb46 (Nat.le_refl _)).alloc o).kept hgrow (by
      cases hv : vs.ownBlock with
      | none => exact .inl rfl
      | some g =>
        right
        intro e
        have h1 := (ho4.lt g hv).2
        have h2 := (hown6.lt g e.symm).1
        omega)
    rwa [hls] at ho
  · have := own_base hown7 hB
    rwa [show ptrs LA ++ [Value.pointer (some ⟨bn, 0, none⟩)] = ptrs (LA ++ [(bn, R.b, Sn)]) by simp [ptrs]] at this
  · simpa using hvs
  · intro j _
    rw [List.map_append, show LA.map (fun e => e.2.1) = R.a from hvals5]
    rfl
/-- A cell of an own row. -/
theorem own_at {w : World} {B e n g c k : Nat} {xs : List Value} {u : Value} (h : w.ownsRow B e 1 (.slice (some ⟨g, 0, none⟩) n c) n xs) (hk : k < n) (hu : xs[k]? = some u) : w.cell? ⟨g, k, none⟩ = some u := by
  obtain ⟨g', c', u', e, _, hu', hc, _⟩ := own_cell h hk
  simp only [Value.slice.injEq, Option.some.injEq, Addr.mk.injEq, and_true, true_and] at e
  obtain ⟨rfl, rfl⟩ := e
  rw [hu] at hu'
  rw [hc, ← hu']
/-- Inn.get, with the two slices' forms known. -/
theorem Inn.get' {w : World} {B d bw k gs cs ga ca : Nat} {t : Int} {Sw : List Nat} {s xs : List Int} {LS LA : List Num} (h : Inn w B d (.slice (some ⟨gs, 0, none⟩) (d + 1) cs) (.slice (some ⟨ga, 0, none⟩) (d + 1) ca) bw t Sw s xs k LS LA) (hs : s.length = d + 1) (hx : xs.length = d + 1) (hk : k < d + 1) :
    ∃ bs ba Ss Sa, gs < w.heap.size ∧ ga < w.heap.size ∧
      w.cell? ⟨gs, k, none⟩ = some (.pointer (some ⟨bs, 0, none⟩)) ∧ w.cell? ⟨ga, k, none⟩ = some (.pointer (some ⟨ba, 0, none⟩)) ∧
      LS[k]? = some (bs, s[k], Ss) ∧ LA[k]? = some (ba, xs[k], Sa) ∧ IntF w bs s[k] Ss ∧ IntF w ba xs[k] Sa ∧ IntF w bw t Sw ∧ ba ≠ bw ∧ (∀ j ∈ Ss, B ≤ j) ∧ (∀ j ∈ Sa, B ≤ j) ∧ (ptrs LS)[k]? = some (.pointer (some ⟨bs, 0, none⟩)) := by
  have hLS := own_length h.os
  obtain ⟨gs', cs', ga', ca', bs, ba, Ss, Sa, e1, e2, h1, h2, h3, h4, h5, h6, h7, h8, h9, h10⟩ := h.get hs hx hk
  simp only [Value.slice.injEq, Option.some.injEq, Addr.mk.injEq, and_true, true_and] at e1 e2
  obtain ⟨rfl, rfl⟩ := e1
  obtain ⟨rfl, rfl⟩ := e2
  have i1 : (LS ++ (bw, t, Sw) :: LA)[k]? = some (bs, s[k], Ss) := by rw [List.getElem?_append_left (by omega)]; exact h5
  have i3 : (LS ++ (bw, t, Sw) :: LA)[d + 1 + 1 + k]? = some (ba, xs[k], Sa) := by
    rw [List.getElem?_append_right (by omega), hLS, show d + 1 + 1 + k - (d + 1) = k + 1 by omega, List.getElem?_cons_succ]; exact h6
  refine ⟨bs, ba, Ss, Sa, h1, h2, h3, h4, h5, h6, h7, h8, h9, h10, (h.fam.int _ _ _ _ i1).2, (h.fam.int _ _ _ _ i3).2, ?_⟩
  rw [ptrs, List.getElem?_map, h5]; rfl
/-- The sum's number behind the product. -/
theorem sum_int {w1 : World} {B k bs : Nat} {y : Int} {Ss : List Nat} {LS M : List Num} (hb : LS[k]? = some (bs, y, Ss)) (hf : Fam w1 B (LS ++ M)) : IntF w1 bs y Ss := by
  have hk := (List.getElem?_eq_some_iff.1 hb).1
  exact (hf.int k bs y Ss (by rw [List.getElem?_append_left hk]; exact hb)).1
/-- The head of an own row. -/
theorem own_prefix {w : World} {B e n g c k : Nat} {xs : List Value} (h : w.ownsRow B e 1 (.slice (some ⟨g, 0, none⟩) n c) n xs) (hk : k ≤ n) : w.ownsRow B e 1 (.slice (some ⟨g, 0, none⟩) k c) k (xs.take k) := by
  have hl : xs.length = n := by have := h.1; omega
  rcases h.2 with ⟨h1, _⟩ | ⟨g', cap, cur, e1, hB, hb, h1, h2, h3, h4⟩
  · cases h1
  · simp only [Value.slice.injEq, Option.some.injEq, Addr.mk.injEq, and_true, true_and] at e1
    obtain ⟨rfl, rfl⟩ := e1
    refine ⟨by simp; omega, .inr ⟨g, c, cur, rfl, hB, hb, by omega, h2, h3, ?_⟩⟩
    rw [← h4, List.take_take]
    congr 1
    omega
theorem RowF.head {w : World} {B g c n k : Nat} {L : List Num} (h : RowF w B (.slice (some ⟨g, 0, none⟩) n c) L) (hn : L.length = n) (hk : k ≤ n) : RowP w B (.slice (some ⟨g, 0, none⟩) k c) ((vals L).take k) ((ptrs L).take k) := by
  have hlen : ((vals L).take k).length = k := by rw [List.length_take]; simp [vals]; omega
  have ho := h.own
  rw [hn] at ho
  refine ⟨by rw [hlen]; exact own_prefix ho hk, fun i hi => ?_⟩
  rw [hlen] at hi
  obtain ⟨p, hp, ha⟩ := h.rowP.ints i (by simp [vals]; omega)
  refine ⟨p, by rw [List.getElem?_take_of_lt hi]; exact hp, ?_⟩
  rw [List.getElem_take]
  exact ha
/-- A number of a row. -/
theorem RowF.at {w : World} {B g c n k : Nat} {L : List Num} (h : RowF w B (.slice (some ⟨g, 0, none⟩) n c) L) (hn : L.length = n) (hk : k < n) :
    ∃ b S, g < w.heap.size ∧ w.cell? ⟨g, k, none⟩ = some (.pointer (some ⟨b, 0, none⟩)) ∧ IntF w b ((vals L).getD k 0) S ∧ (∀ j ∈ S, B ≤ j) := by
  have hL : L[k]? = some L[k] := by simp
  have ho := h.own
  rw [hn] at ho
  obtain ⟨g', c', _, e, hg, _⟩ := own_cell ho hk
  simp only [Value.slice.injEq, Option.some.injEq, Addr.mk.injEq, and_true, true_and] at e
  obtain ⟨rfl, rfl⟩ := e
  have hi := h.fam.int k L[k].1 L[k].2.1 L[k].2.2 (by rw [hL])
  refine ⟨L[k].1, L[k].2.2, hg, own_at ho hk (by rw [ptrs, List.getElem?_map, hL]; rfl), ?_, hi.2⟩
  rw [vals, List.getD_eq_getElem?_getD, List.getElem?_map, hL]
  exact hi.1
end Go.Proofs.YtochcofoknfjfaaGreatDoor
namespace Go.Proofs.YtochcofoknfjfaaGreatDoor
open Go Go.RowKit Nt

def noRow : RowZ := ⟨false, [], 0⟩
/-- The i-th sum of the first k rows. -/
def sumAt (d : Nat) (rs : List RowZ) (ws : List Int) (k i : Nat) : Int := (sumK d rs ws k).getD i 0
/-- No weight below 0 at a row without Eq among the first k. -/
def wantB (rs : List RowZ) (ws : List Int) : Nat → Bool
  | 0 => true
  | k + 1 => wantB rs ws k && (decide (0 ≤ ws.getD k 0) || (rs.getD k noRow).eq)
/-- The first k sums are den times the row's numbers, and the last one is at least den times its b. -/
def sameB (d : Nat) (rs : List RowZ) (ws : List Int) (r : RowZ) (den : Int) : Nat → Bool
  | 0 => decide (den * r.b ≤ sumAt d rs ws rs.length d)
  | k + 1 => sameB d rs ws r den k && decide (sumAt d rs ws rs.length k = den * r.a.getD k 0)

theorem wantB_all {rs : List RowZ} {ws : List Int} : ∀ k, wantB rs ws k = true ↔ ∀ i, i < k → 0 ≤ ws.getD i 0 ∨ (rs.getD i noRow).eq = true := by
  intro k
  induction k with
  | zero => simp [wantB]
  | succ k ih =>
    simp only [wantB, Bool.and_eq_true, Bool.or_eq_true, decide_eq_true_eq, ih]
    constructor
    · rintro ⟨h1, h2⟩ i hi
      by_cases e : i = k
      · subst e; exact h2
      · exact h1 i (by omega)
    · intro h
      exact ⟨fun i hi => h i (by omega), h k (by omega)⟩
theorem sameB_all {d : Nat} {rs : List RowZ} {ws : List Int} {r : RowZ} {den : Int} : ∀ k, sameB d rs ws r den k = true ↔ (∀ i, i < k → sumAt d rs ws rs.length i = den * r.a.getD i 0) ∧ den * r.b ≤ sumAt d rs ws rs.length d := by
  intro k
  induction k with
  | zero => simp [sameB]
  | succ k ih =>
    simp only [sameB, Bool.and_eq_true, decide_eq_true_eq, ih]
    constructor
    · rintro ⟨⟨h1, h3⟩, h2⟩
      refine ⟨fun i hi => ?_, h3⟩
      by_cases e : i = k
      · subst e; exact h2
      · exact h1 i (by omega)
    · rintro ⟨h1, h3⟩
      exact ⟨⟨fun i hi => h1 i (by omega), h3⟩, h1 k (by omega)⟩
theorem holds_iff {d : Nat} {rs : List RowZ} {r : RowZ} {ws : List Int} {den : Int} (hl : ws.length = rs.length) :
    Holds d rs r ws den ↔ (wantB rs ws rs.length && (allZ ((sumK d rs ws rs.length).take d) && decide (0 < sumAt d rs ws rs.length d) || sameB d rs ws r den d)) = true := by
  simp only [Bool.and_eq_true, Bool.or_eq_true, decide_eq_true_eq, wantB_all, sameB_all]
  unfold Holds
  have h1 : (∀ i (h : i < rs.length) (h' : i < ws.length), ¬ (ws[i] < 0 ∧ rs[i].eq = false)) ↔ ∀ i, i < rs.length → 0 ≤ ws.getD i 0 ∨ (rs.getD i noRow).eq = true := by
    constructor
    · intro h i hi
      have := h i hi (by omega)
      rw [List.getD_eq_getElem?_getD, List.getD_eq_getElem?_getD, List.getElem?_eq_getElem hi, List.getElem?_eq_getElem (show i < ws.length by omega)]
      simp only [Option.getD_some]
      by_cases h0 : 0 ≤ ws[i]
      · exact .inl h0
      · right
        cases he : rs[i].eq
        · exact absurd ⟨by omega, he⟩ this
        · rfl
    · intro h i hi hi' hh
      have := h i hi
      rw [List.getD_eq_getElem?_getD, List.getD_eq_getElem?_getD, List.getElem?_eq_getElem hi, List.getElem?_eq_getElem hi'] at this
      simp only [Option.getD_some] at this
      rcases this with h1 | h1
      · omega
      · rw [hh.2] at h1; cases h1
  rw [h1]
  rfl

theorem sumAt_zero (d : Nat) (rs : List RowZ) (ws : List Int) (i : Nat) : sumAt d rs ws 0 i = 0 := by
  unfold sumAt sumK
  rw [List.getD_eq_getElem?_getD, List.getElem?_replicate]
  split <;> rfl
theorem sumAt_succ {d k i : Nat} {rs : List RowZ} {ws : List Int} (hr : ∀ r ∈ rs, r.a.length = d) (h : k < rs.length) (h' : k < ws.length) (hi : i < d + 1) :
    sumAt d rs ws (k + 1) i = sumAt d rs ws k i + ws[k] * (rowN rs[k]).getD i 0 := by
  have hl := sumK_length (d := d) (rs := rs) (ws := ws) hr k (by omega)
  have hx : (rowN rs[k]).length = d + 1 := by simp [rowN, hr _ (List.getElem_mem h)]
  have e1 : rs.getD k ⟨false, [], 0⟩ = rs[k] := by rw [List.getD_eq_getElem?_getD, List.getElem?_eq_getElem h]; rfl
  have e2 : ws.getD k 0 = ws[k] := by rw [List.getD_eq_getElem?_getD, List.getElem?_eq_getElem h']; rfl
  unfold sumAt
  simp only [sumK]
  rw [e1, e2, List.getD_eq_getElem?_getD, addW_get (by omega) (by omega), Int.mul_comm, List.getD_eq_getElem?_getD, List.getD_eq_getElem?_getD, List.getElem?_eq_getElem (show i < (sumK d rs ws k).length by omega), List.getElem?_eq_getElem (show i < (rowN rs[k]).length by omega)]
  rfl
theorem rowN_lt {R : RowZ} {i : Nat} (h : i < R.a.length) : (rowN R).getD i 0 = R.a[i] := by
  rw [rowN, List.getD_eq_getElem?_getD, List.getElem?_append_left h, List.getElem?_eq_getElem h]; rfl
theorem rowN_last {R : RowZ} {d : Nat} (h : R.a.length = d) : (rowN R).getD d 0 = R.b := by
  rw [rowN, List.getD_eq_getElem?_getD, List.getElem?_append_right (by omega), h, Nat.sub_self]; rfl

/-- All numbers are at most 30 in size. -/
def Tm (zs : List Int) : Prop := ∀ z ∈ zs, -30 ≤ z ∧ z ≤ 30
theorem prod_tame {x t : Int} (hx : -30 ≤ x ∧ x ≤ 30) (ht : -30 ≤ t ∧ t ≤ 30) : -900 ≤ t * x ∧ t * x ≤ 900 := by
  have : (t * x).natAbs ≤ 30 * 30 := by rw [Int.natAbs_mul]; exact Nat.mul_le_mul (by omega) (by omega)
  omega
theorem getD_tame {zs : List Int} (h : Tm zs) (i : Nat) : -30 ≤ zs.getD i 0 ∧ zs.getD i 0 ≤ 30 := by
  rw [List.getD_eq_getElem?_getD]
  by_cases hi : i < zs.length
  · rw [List.getElem?_eq_getElem hi]
    exact h _ (List.getElem_mem hi)
  · rw [List.getElem?_eq_none (by omega)]; simp
theorem sumAt_tame {d : Nat} {rs : List RowZ} {ws : List Int} (hr : ∀ r ∈ rs, r.a.length = d) (ht : ∀ r ∈ rs, Tm (rowN r)) (hw : Tm ws) {i : Nat} (hi : i < d + 1) :
    ∀ k, k ≤ rs.length → k ≤ ws.length → -(900 * (k : Int)) ≤ sumAt d rs ws k i ∧ sumAt d rs ws k i ≤ 900 * (k : Int) := by
  intro k
  induction k with
  | zero => intro _ _; rw [sumAt_zero]; simp
  | succ k ih =>
    intro h1 h2
    have h3 := ih (by omega) (by omega)
    rw [sumAt_succ hr (by omega) (by omega) hi]
    have h4 := prod_tame (getD_tame (ht _ (List.getElem_mem (show k < rs.length by omega))) i) (hw _ (List.getElem_mem (show k < ws.length by omega)))
    omega
/-- The i-th number of the law's sums while it turns those of row k: the first m are turned. -/
def midAt (d : Nat) (rs : List RowZ) (ws : List Int) (k m i : Nat) : Int := if i < m then sumAt d rs ws (k + 1) i else sumAt d rs ws k i
theorem midAt_zero (d : Nat) (rs : List RowZ) (ws : List Int) (k i : Nat) : midAt d rs ws k 0 i = sumAt d rs ws k i := by simp [midAt]
theorem midAt_all {d k m i : Nat} {rs : List RowZ} {ws : List Int} (h : i < m) : midAt d rs ws k m i = sumAt d rs ws (k + 1) i := if_pos h
theorem midAt_self (d : Nat) (rs : List RowZ) (ws : List Int) (k m : Nat) : midAt d rs ws k m m = sumAt d rs ws k m := by simp [midAt]
theorem midAt_ne {d k m i : Nat} {rs : List RowZ} {ws : List Int} (h : i ≠ m) : midAt d rs ws k (m + 1) i = midAt d rs ws k m i := by
  unfold midAt
  by_cases h1 : i < m
  · rw [if_pos h1, if_pos (by omega)]
  · rw [if_neg h1, if_neg (by omega)]
/-- The row of the sums as a list. -/
theorem sumK_map {d k : Nat} {rs : List RowZ} {ws : List Int} (hr : ∀ r ∈ rs, r.a.length = d) (hk : k ≤ rs.length) : sumK d rs ws k = (List.range (d + 1)).map (sumAt d rs ws k) := by
  have hl := sumK_length (d := d) (rs := rs) (ws := ws) hr k hk
  apply List.ext_getElem?
  intro i
  by_cases hi : i < d + 1
  · rw [List.getElem?_map, List.getElem?_range hi]
    simp [sumAt, hl, hi]
  · rw [List.getElem?_eq_none (by omega), List.getElem?_eq_none (by simp; omega)]
end Go.Proofs.YtochcofoknfjfaaGreatDoor
namespace Go.Proofs.YtochcofoknfjfaaGreatDoor
open Go Go.RowKit Nt

theorem allZ_snoc (zs : List Int) (z : Int) : allZ (zs ++ [z]) = (allZ zs && (z == 0)) := by simp [allZ]

set_option maxRecDepth 100000 in
set_option maxHeartbeats 1000000 in
theorem rpivot_any (v : Value) (zs : List Int) (w : World) (hv : SliceI w v zs) (hl : zs.length ≤ 1000000) :
    Calls Tryz.prog 53 #[v] w (IdxRes zs w) := by
  obtain ⟨o, cap, rfl, hc⟩ := hv
  obtain ⟨n, hn⟩ : ∃ n, zs.length = n := ⟨_, rfl⟩
  rw [hn] at hl ⊢
  have HN := Lib.hid hn
  have HC := Lib.hid hc
  clear hn hc
  go_enter Tryz.func53, Tryz.ntmps53
  go_wp2_with fail
  go_loop [3] (fun i => ∃ k : Nat, k ≤ n ∧ i = .int .i64 k ∧ Hid (allZ (zs.take k) = true)) (fun i => n - (intOf i).toNat)
  case atStart => exact ⟨0, Nat.zero_le _, rfl, rfl⟩
  case round =>
    obtain ⟨k, hk, rfl, hf⟩ := hrel
    by_cases hlt : k < n
    · have hk' : k < zs.length := by have := HN.out; omega
      obtain ⟨b, off, rfl, hbl, hcs⟩ := HC.out (by intro e; rw [e] at hk'; simp at hk')
      have hcell : w.cell? ⟨b, off + k, none⟩ = some (.int .i64 zs[k]) := hcs k hk'
      have HT := Lib.hid (show allZ (zs.take (k + 1)) = (zs[k] == 0) by
        rw [List.take_succ_eq_append_getElem hk', allZ_snoc, hf.out, Bool.true_and])
      have HY : (zs[k] == 0) = false → Hid (allZ zs = false) := fun h => by
        show allZ zs = false
        unfold allZ
        rw [List.all_eq_false]
        exact ⟨_, List.getElem_mem hk', by simpa using h⟩
      obtain ⟨z, hz⟩ : ∃ z, zs[k] = z := ⟨_, rfl⟩
      rw [hz] at hcell HT HY
      clear hz hcs
      by_cases hb : (z == 0) = true
      · have HF := Lib.hid (HT.out.trans hb)
        have hb2 : (z != 0) = false := by simpa using hb
        clear HT HY hb
        go_wp2_with fail
        go_round
        case rel => exact ⟨k + 1, by omega, by go_num, HF⟩
        case measure => simp [intOf]; omega
      · rw [Bool.not_eq_true] at hb
        have HR := HY hb
        have hb2 : (z != 0) = true := by simpa using hb
        clear HT HY hb
        go_wp2_with fail
        go_ret
        exact ⟨k, rfl, by rw [HR.out]; simp, by omega, by omega, rfl⟩
    · obtain rfl : k = n := by omega
      have HF := Lib.hid (show allZ zs = true by have := hf.out; have h := HN.out; rwa [List.take_of_length_le (by omega)] at this)
      go_wp2_with fail
      go_ret
      exact ⟨-1, rfl, by rw [HF.out]; rfl, by omega, by omega, rfl⟩

set_option maxRecDepth 100000 in
set_option maxHeartbeats 1000000 in
theorem rzeroI_any (v : Value) (zs : List Int) (w : World) (hv : SliceI w v zs) (hl : zs.length ≤ 1000000) :
    Calls Tryz.prog 23 #[v] w fun e w' => e = .returned (.bool (allZ zs)) ∧ w = w' := by
  have HP := Lib.hid (rpivot_any v zs w hv hl)
  obtain ⟨o, cap, rfl, hc⟩ := hv
  clear hc
  go_enter Tryz.func23, Tryz.ntmps23
  go_wp2_with fail
  refine HP.out.mono ?_
  rintro e w1 ⟨i, rfl, hi, h1, h2, rfl⟩
  have hd : decide (i < 0) = allZ zs := by
    cases h : allZ zs
    · rw [h] at hi; simp at hi; simp; omega
    · rw [h] at hi; simp at hi; simp; omega
  clear hi
  go_wp2_with fail
  go_ret
  exact ⟨rfl, rfl⟩
end Go.Proofs.YtochcofoknfjfaaGreatDoor
namespace Go.Proofs.YtochcofoknfjfaaGreatDoor
open Go Go.RowKit Nt

theorem wantB_succ {rs : List RowZ} {ws : List Int} {k : Nat} (h : k < rs.length) (h' : k < ws.length) : wantB rs ws (k + 1) = (wantB rs ws k && (decide (0 ≤ ws[k]) || rs[k].eq)) := by
  rw [wantB, List.getD_eq_getElem?_getD, List.getD_eq_getElem?_getD, List.getElem?_eq_getElem h, List.getElem?_eq_getElem h']
  rfl
theorem sameB_succ {d k : Nat} {rs : List RowZ} {ws : List Int} {r : RowZ} {den : Int} (h : k < r.a.length) : sameB d rs ws r den (k + 1) = (sameB d rs ws r den k && decide (sumAt d rs ws rs.length k = den * r.a[k])) := by
  rw [sameB, List.getD_eq_getElem?_getD, List.getElem?_eq_getElem h]
  rfl
theorem row_tame {r : RowZ} (h1 : wildB r.a = false) (h2 : wildB [r.b] = false) : Tm (rowN r) := fun z hz => by
  rcases List.mem_append.1 hz with h | h
  · exact tame_of h1 z h
  · exact tame_of h2 z h
theorem low_tame {dim m : Int} {rs : List RowZ} (h : lowB dim rs m = true) : (∀ r ∈ rs, Tm (rowN r)) ∧ dim ≤ 3 := by
  simp only [lowB, Bool.and_eq_true, decide_eq_true_eq, Bool.not_eq_true', List.any_eq_false] at h
  refine ⟨fun r hr => ?_, h.1.2⟩
  have := h.1.1 r hr
  rw [wildR, Bool.not_eq_true, Bool.or_eq_false_iff] at this
  exact row_tame this.1 this.2
/-- The first d sums as a slice. -/
theorem sums_slice {w : World} {b d k : Nat} {csl : Array Value} {rs : List RowZ} {ws : List Int} (hb : Blk w b csl 3) (hc : ∀ q, q < d + 1 → csl[q]? = some (.int .i64 (sumAt d rs ws k q))) (hr : ∀ r ∈ rs, r.a.length = d) (hk : k ≤ rs.length) :
    SliceI w (.slice (some ⟨b, 0, none⟩) d (d + 1)) ((sumK d rs ws k).take d) := by
  have hl := sumK_length (d := d) (rs := rs) (ws := ws) hr k hk
  have hl2 : ((sumK d rs ws k).take d).length = d := by rw [List.length_take]; omega
  refine ⟨some ⟨b, 0, none⟩, d + 1, by rw [hl2], fun _ => ⟨b, 0, rfl, hb.lt, fun i hi => ?_⟩⟩
  rw [hl2] at hi
  have e : ((sumK d rs ws k).take d)[i]'(by omega) = sumAt d rs ws k i := by
    rw [List.getElem_take, sumAt, List.getD_eq_getElem?_getD, List.getElem?_eq_getElem (by omega)]
    rfl
  rw [e, Nat.zero_add]
  exact (hb.cell i).trans (hc i (by omega))
/-- What the law compares. -/
theorem answer_eq {d : Nat} {rs : List RowZ} {r : RowZ} {ws : List Int} {den : Int} {g : Bool} (hl : ws.length = rs.length) (hg : g = true ↔ Holds d rs r ws den) :
    g = (wantB rs ws rs.length && (allZ ((sumK d rs ws rs.length).take d) && decide (0 < sumAt d rs ws rs.length d) || sameB d rs ws r den d)) :=
  Bool.eq_iff_iff.2 (hg.trans (holds_iff hl))
theorem made_zero {d : Nat} {rs : List RowZ} {ws : List Int} : ∀ q, q < d + 1 → (madeCells #[Value.int .i64 0] (d + 1))[q]? = some (.int .i64 (sumAt d rs ws 0 q)) := fun q hq => by
  rw [sumAt_zero, ← Array.getElem?_toList, toList_madeCells_one, List.getElem?_replicate, if_pos hq]
/-- Behind the turn of one of a row's sums. -/
theorem mid_step {d k q : Nat} {rs : List RowZ} {ws : List Int} {csl csl' : Array Value} {z : Int} (hs : csl.size = d + 1) (hc : ∀ j, j < d + 1 → csl[j]? = some (.int .i64 (midAt d rs ws k q j))) (hz : sumAt d rs ws (k + 1) q = z)
    (h1 : csl'.size = csl.size) (h2 : csl'[q]? = some (.int .i64 z)) (h3 : ∀ i, i ≠ q → csl'[i]? = csl[i]?) : csl'.size = d + 1 ∧ ∀ j, j < d + 1 → csl'[j]? = some (.int .i64 (midAt d rs ws k (q + 1) j)) := by
  refine ⟨h1.trans hs, fun j hj => ?_⟩
  by_cases e : j = q
  · subst e
    rw [h2, midAt_all (by omega), hz]
  · rw [h3 j e, hc j hj, midAt_ne e]
theorem mid_last {d k : Nat} {rs : List RowZ} {ws : List Int} {csl : Array Value} (hc : ∀ j, j < d + 1 → csl[j]? = some (.int .i64 (midAt d rs ws k (d + 1) j))) : ∀ j, j < d + 1 → csl[j]? = some (.int .i64 (sumAt d rs ws (k + 1) j)) := fun j hj => by
  rw [hc j hj, midAt_all hj]
end Go.Proofs.YtochcofoknfjfaaGreatDoor
