/- Words on a maker in the midst of a cut. No walk in this file. What stands ready for the calls of a cut. No walk in this file. -/
import Derived.Test.YtggoncneinlpgaaGreatDoorJG
namespace Go.Proofs.YtggoncneinlpgaaGreatDoor
open Go Go.RowKit Nt

theorem grown_drew {w w' : World} {row : Option Nat} (h : w.drew.grownBy w' row) : w.grownBy w' row := ⟨h.os, h.tape, h.output, h.size, h.block⟩
theorem grown_drewN {w w' : World} {row : Option Nat} {n : Nat} (h : (w.drewN n).grownBy w' row) : w.grownBy w' row := ⟨h.os, h.tape, h.output, h.size, h.block⟩
theorem Chg.grownT {T : List Nat} {a w w' : World} {row : Option Nat} (h : Chg T a w) (hg : w.grownBy w' row) (hr : ∀ g, row = some g → a.heap.size ≤ g) : Chg T a w' :=
  ⟨hg.os.trans h.os, hg.tape.trans h.tape, hg.output.trans h.output, Nat.le_trans h.size hg.size, fun k hk hs => (hg.block k (Nat.lt_of_lt_of_le hk h.size) (fun e => by have := hr k e.symm; omega)).trans (h.block k hk hs)⟩
theorem Chg.grownM {T : List Nat} {a w w' : World} {row : Option Nat} (h : Chg T a w) (hg : w.grownBy w' row) (hr : ∀ g, row = some g → g ∈ T) : Chg T a w' :=
  ⟨hg.os.trans h.os, hg.tape.trans h.tape, hg.output.trans h.output, Nat.le_trans h.size hg.size, fun k hk hs => (hg.block k (Nat.lt_of_lt_of_le hk h.size) (fun e => hs (hr k e.symm))).trans (h.block k hk hs)⟩
theorem Blk.grownT {w w' : World} {g : Nat} {cs : Array Value} {t : TypeId} {row : Option Nat} (h : Blk w g cs t) (hb : w.grownBy w' row) (hg : some g ≠ row) : Blk w' g cs t := (hb.block g h.lt hg).trans h
theorem rowAt_form {w : World} {B : Nat} {v : Value} {zs : List Int} (h : RowAt w B v zs) : ∃ o c, v = .slice o zs.length c := by
  obtain ⟨ps, hp⟩ := h
  obtain ⟨o, c, e, _⟩ := hp.form
  exact ⟨o, c, e⟩
theorem own_mono {w : World} {b1 b2 e size n : Nat} {v : Value} {xs : List Value} (h : w.ownsRow b2 e size v n xs) (hb : b1 ≤ b2) : w.ownsRow b1 e size v n xs := own_down h hb

/-- A row made flat: its part along l is taken out. -/
def flatZ (a l r : List Int) : List Int := normZ (mixZ r (dotZ a l) l (-(dotZ a r)))

/-- A maker in memory: its block holds cR, cL, vD; the rays, lines and rows told of lie at vR, vL, vD. -/
structure MakS (w0 w : World) (bm U : Nat) (cR cL vR vL vD : Value) (R L D : List (List Int)) (xD : List Value) : Prop where
  blk : Blk w bm #[cR, cL, vD] 101
  rays : ∃ xs, RaysR w (bm + 1) vR R xs
  lines : ∃ xs, OwnR w U vL L xs
  done : w.ownsRow (bm + 1) 47 1 vD D.length xD
  old : ∀ i (h : i < D.length), ∃ dv ps B, xD[i]? = some dv ∧ RowP w0 B dv D[i] ps
  base : bm < U
  bw : Below bm w0 w
  bm0 : w0.heap.size ≤ bm
theorem MakS.below {w0 w w' : World} {bm U : Nat} {cR cL vR vL vD : Value} {R L D : List (List Int)} {xD : List Value} (h : MakS w0 w bm U cR cL vR vL vD R L D xD) (hb : Below w.heap.size w w') : MakS w0 w' bm U cR cL vR vL vD R L D xD := by
  obtain ⟨xs, h1⟩ := h.rays
  obtain ⟨ys, h2⟩ := h.lines
  exact ⟨h.blk.below hb h.blk.lt, ⟨xs, h1.below hb⟩, ⟨ys, h2.below hb⟩, ownsRow_below h.done hb (Nat.le_refl _), h.old, h.base, h.bw.trans (hb.mono (Nat.le_of_lt h.blk.lt)), h.bm0⟩
/-- The maker's own block turns. -/
theorem MakS.turn {w0 w w' : World} {bm U : Nat} {cR cL vR vL vD cR' cL' : Value} {R L D : List (List Int)} {xD : List Value} (h : MakS w0 w bm U cR cL vR vL vD R L D xD) (hc : Chg [bm] w w') (hb : Blk w' bm #[cR', cL', vD] 101) : MakS w0 w' bm U cR' cL' vR vL vD R L D xD := by
  obtain ⟨xs, h1⟩ := h.rays
  obtain ⟨ys, h2⟩ := h.lines
  have hB := h.base
  exact ⟨hb, ⟨xs, h1.chgT hc (by simp)⟩, ⟨ys, h2.chgT hc (by simpa using hB)⟩, own_chgT h.done hc (by simp), h.old, h.base, h.bw.trans (hc.below (Nat.le_of_lt h.blk.lt) (by simp)), h.bm0⟩
/-- One row more is told of. -/
theorem MakS.push {w0 w w1 : World} {bm U B : Nat} {cR cL vR vL vD v' va : Value} {R L D : List (List Int)} {xD pa : List Value} {a : List Int} {o : Obj} (h : MakS w0 w bm U cR cL vR vL vD R L D xD) (hsep : ∀ g, vD.ownBlock = some g → g < U) (ha : RowP w0 B va a pa)
    (hown : w1.ownsRow (bm + 1) 47 1 v' (D.length + 1) (xD ++ [va])) (hg : (w.alloc o).grownBy w1 vD.ownBlock) : MakS w0 (w1.setCell ⟨bm, 2, none⟩ v') bm U cR cL vR vL v' R L (D ++ [a]) (xD ++ [va]) := by
  have hbo : Below w.heap.size w (w.alloc o) := (Below.refl _ _).alloc (Nat.le_refl _) o
  have h1 := h.below hbo
  obtain ⟨xs, hR⟩ := h1.rays
  obtain ⟨ys, hL⟩ := h1.lines
  have hB := h.base
  have hR1 := hR.grownBy h1.done hg (own_ne hR.own h1.done (by decide)) (by decide) (by decide) (by decide)
  have hL1 := hL.grownBy h1.done hg (by
    cases e : vL.ownBlock with
    | none => exact .inl rfl
    | some g =>
      right
      intro e2
      have := (hL.own.lt g e).1
      have := hsep g e2.symm
      omega) (by decide) (by decide) (by decide)
  have hc1 : Chg [bm] w1 (w1.setCell ⟨bm, 2, none⟩ v') := (Chg.refl _ _).setCell (.inl (by simp)) _
  have hb1 := h1.blk.grownT hg (fun e => by have := (h1.done.lt bm e.symm).1; omega)
  refine ⟨by simpa using hb1.set 2 v', ⟨xs, hR1.chgT hc1 (by simp)⟩, ⟨ys, hL1.chgT hc1 (by simpa using hB)⟩, by simpa using own_chgT hown hc1 (by simp), fun i hi => ?_, h.base, ?_, h.bm0⟩
  · have hl : xD.length = D.length := by simpa using h.done.1
    have hi' : i < D.length + 1 := by simpa using hi
    by_cases e : i < D.length
    · obtain ⟨dv, ps, B', e1, e2⟩ := h.old i e
      refine ⟨dv, ps, B', by rw [List.getElem?_append_left (by omega)]; exact e1, ?_⟩
      rw [List.getElem_append_left e]
      exact e2
    · have : i = D.length := by omega
      subst this
      refine ⟨va, pa, B, by rw [List.getElem?_append_right (by omega), hl]; simp, ?_⟩
      simp only [List.getElem_concat_length]
      exact ha
  · exact Below.setCell (p := ⟨bm, 2, none⟩) (h1.bw.grown hg (Nat.le_of_lt h1.blk.lt) (fun g e => by have := (h1.done.lt g e).1; omega)) (Nat.le_refl _) v'

/-- In the midst of a cut's loops, since world wS: the new lines and rays. -/
structure CutI (wS wr : World) (bm : Nat) (vD cR cL : Value) (mR mL : List (List Int)) (ys xs : List Value) : Prop where
  chg : Chg [bm] wS wr
  blk : Blk wr bm #[cR, cL, vD] 101
  lines : OwnR wr wS.heap.size cL mL xs
  rown : wr.ownsRow wS.heap.size 106 2 cR mR.length ys
  rays : RaysR wr (bm + 1) cR mR ys
  lt : bm < wS.heap.size
  nil : mL = [] → cL = .slice none 0 0
theorem CutI.start {wS : World} {bm : Nat} {vD : Value} (h : Blk wS bm #[.slice none 0 0, .slice none 0 0, vD] 101) : CutI wS wS bm vD (.slice none 0 0) (.slice none 0 0) [] [] [] [] :=
  ⟨Chg.refl _ _, h, OwnR.nil _ _, World.ownsRow_nil _ _ _ _, RaysR.nil _ _, h.lt, fun _ => rfl⟩
theorem CutI.below {wS wr w' : World} {bm : Nat} {vD cR cL : Value} {mR mL : List (List Int)} {ys xs : List Value} (h : CutI wS wr bm vD cR cL mR mL ys xs) (hb : Below wr.heap.size wr w') : CutI wS w' bm vD cR cL mR mL ys xs :=
  ⟨h.chg.trans (Chg.of_below hb (Nat.le_refl _) _), h.blk.below hb h.blk.lt, h.lines.below hb, ownsRow_below h.rown hb (Nat.le_refl _), h.rays.below hb, h.lt, h.nil⟩
theorem CutI.line {wS wr w4 w5 : World} {bm : Nat} {vD cR cL v4 v' : Value} {mR mL : List (List Int)} {ys xs : List Value} {f : List Int} {o : Obj} (h : CutI wS wr bm vD cR cL mR mL ys xs) (hb : Below wr.heap.size wr w4) (hr : RowAt w4 wr.heap.size v4 f)
    (hown : w5.ownsRow wS.heap.size 47 1 v' (mL.length + 1) (xs ++ [v4])) (hg : (w4.alloc o).grownBy w5 cL.ownBlock) : CutI wS (w5.setCell ⟨bm, 1, none⟩ v') bm vD cR v' mR (mL ++ [f]) ys (xs ++ [v4]) := by
  have hbo : Below w4.heap.size w4 (w4.alloc o) := (Below.refl _ _).alloc (Nat.le_refl _) o
  have h1 := (h.below hb).below hbo
  have hlt := h.lt
  have hle := h.chg.size
  have hL := h1.lines.push ((hr.below hbo (Nat.le_refl _)).mono hle) hown hg
  have hR := h1.rays.grownBy h1.lines.own hg (own_ne h1.rays.own h1.lines.own (by decide)) (by decide) (by decide) (by decide)
  have hO := h1.rown.kept hg (own_ne h1.rown h1.lines.own (by decide))
  have hc1 : Chg [bm] w5 (w5.setCell ⟨bm, 1, none⟩ v') := (Chg.refl _ _).setCell (.inl (by simp)) _
  have hb1 := h1.blk.grownT hg (fun e => by have := (h1.lines.own.lt bm e.symm).1; omega)
  exact ⟨(h1.chg.grownT hg (fun g e => (h1.lines.own.lt g e).1)).trans hc1, by simpa using hb1.set 1 v', hL.chgT hc1 (by simpa using hlt), own_chgT hO hc1 (by simpa using hlt), hR.chgT hc1 (by simp), h.lt, fun e => by simp at e⟩
theorem CutI.ray {wS wr w4 w5 : World} {bm : Nat} {vD cR cL rv v' : Value} {pv : Option Addr} {mR mL : List (List Int)} {ys xs : List Value} {f : List Int} {o : Obj} (h : CutI wS wr bm vD cR cL mR mL ys xs) (hb : Below wr.heap.size wr w4) (hr : RowAt w4 (bm + 1) rv f)
    (hown : w5.ownsRow wS.heap.size 106 2 v' (mR.length + 1) (ys ++ [rv, .pointer pv])) (hg : (w4.alloc o).grownBy w5 cR.ownBlock) : CutI wS (w5.setCell ⟨bm, 0, none⟩ v') bm vD v' cL (mR ++ [f]) mL (ys ++ [rv, .pointer pv]) xs := by
  have hbo : Below w4.heap.size w4 (w4.alloc o) := (Below.refl _ _).alloc (Nat.le_refl _) o
  have h1 := (h.below hb).below hbo
  have hlt := h.lt
  have hR := h1.rays.push (hr.below hbo (Nat.le_refl _)) (own_down hown hlt) hg
  have hL := h1.lines.grownBy h1.rown hg (own_ne h1.lines.own h1.rown (by decide)) (by decide) (by decide) (by decide)
  have hc1 : Chg [bm] w5 (w5.setCell ⟨bm, 0, none⟩ v') := (Chg.refl _ _).setCell (.inl (by simp)) _
  have hb1 := h1.blk.grownT hg (fun e => by have := (h1.rown.lt bm e.symm).1; omega)
  exact ⟨(h1.chg.grownT hg (fun g e => (h1.rown.lt g e).1)).trans hc1, by simpa using hb1.set 0 v', hL.chgT hc1 (by simpa using hlt), by simpa using own_chgT hown hc1 (by simpa using hlt), hR.chgT hc1 (by simp), h.lt, h.nil⟩
end Go.Proofs.YtggoncneinlpgaaGreatDoor
namespace Go.Proofs.YtggoncneinlpgaaGreatDoor
open Go Go.RowKit Nt

theorem Chg.cellT {T : List Nat} {w w' : World} (h : Chg T w w') {p : Addr} (hp : p.block < w.heap.size) (hn : p.block ∉ T) : w'.cell? p = w.cell? p := by
  obtain ⟨b, o, s⟩ := p
  simp [World.cell?, h.block b hp hn]
theorem own_cells {w : World} {B e size n : Nat} {v : Value} {xs : List Value} (h : w.ownsRow B e size v n xs) (hn : 0 < n) : ∃ g cap, v = .slice (some ⟨g, 0, none⟩) n cap ∧ B ≤ g ∧ g < w.heap.size ∧ ∀ j u, xs[j]? = some u → w.cell? ⟨g, j, none⟩ = some u := by
  rcases h.2 with ⟨_, e⟩ | ⟨g, cap, cur, rfl, hB, hb, h1, h2, h3, h4⟩
  · omega
  · refine ⟨g, cap, rfl, hB, (show Blk w g cur _ from hb).lt, fun j u hj => ?_⟩
    have hlt := (List.getElem?_eq_some_iff.1 hj).1
    have hl := h.1
    rw [(show Blk w g cur _ from hb).cell, ← Array.getElem?_toList]
    have : (cur.toList.take (n * size))[j]? = xs[j]? := by rw [h4]
    rw [List.getElem?_take_of_lt (by omega)] at this
    rw [this, hj]

/-- Of which rows and of what row maker.of can be asked here. -/
def OfOK (D : List (List Int)) (r : List Int) : Prop :=
  Half r ∧ r.length ≤ 1000000 ∧ (∀ d ∈ D, d.length = r.length ∧ Half d) ∧ ∀ i j (hi : i < D.length) (hj : j < D.length), i < j → dotZ D[i] r = 0 → dotZ D[j] r = 0 → False
theorem of_ready {w0 w : World} {bm U : Nat} {cR cL vR vL vD vr : Value} {R L D : List (List Int)} {xD : List Value} {r : List Int} (h : MakS w0 w bm U cR cL vR vL vD R L D xD) (hr : RowAt w (bm + 1) vr r) (h0 : 0 < D.length) (hl : D.length ≤ 3) (hok : OfOK D r) :
    Calls Tryz.prog 82 #[.pointer (some ⟨bm, 0, none⟩), vr] w fun e w' => ∃ pv, e = .returned (.agg #[vr, .pointer (some pv)]) ∧ Below w.heap.size w w' := by
  obtain ⟨g, cap, rfl, _, _, hc⟩ := own_cells h.done h0
  obtain ⟨pr, hr⟩ := hr
  obtain ⟨o1, o2, o3, o4⟩ := hok
  have hbm := h.bm0
  refine (of_row bm g cap vr r pr (bm + 1) D w ((h.blk.cell 2).trans rfl) hr (fun i hi => ?_) o4 hl o2 o1).mono fun e w' ⟨h1, h2⟩ => ⟨_, h1, h2⟩
  obtain ⟨dv, ps, B, e1, e2⟩ := h.old i hi
  exact ⟨dv, ps, B, hc i dv e1, e2.below h.bw h.bm0, e2.apart hr (by omega) (o3 _ (List.getElem_mem hi)).1, o3 _ (List.getElem_mem hi)⟩

/-- The boxes of cut$2's captured variables, since world wS. -/
structure FlatS (w0 wS : World) (bm ba bl bd bD : Nat) (va vl : Value) (a l : List Int) : Prop where
  bw : Below bm w0 wS
  bm0 : w0.heap.size ≤ bm
  lta : bm < ba
  ltl : bm < bl
  ltd : bm < bd
  ca : wS.cell? ⟨ba, 0, none⟩ = some va
  cl : wS.cell? ⟨bl, 0, none⟩ = some vl
  cd : wS.cell? ⟨bd, 0, none⟩ = some (.pointer (some ⟨bD, 0, none⟩))
  ra : ∃ B pa, RowP w0 B va a pa
  rl : RowAt wS (bm + 1) vl l
  hD : ∃ SD, IntF wS bD (dotZ a l) SD ∧ ∀ k ∈ SD, bm < k
def FlatOK (a l r : List Int) : Prop :=
  a.length = r.length ∧ r.length = l.length ∧ Half r ∧ Half a ∧ Half l ∧ (dotZ a l).natAbs ≤ 2147483648 ∧ (dotZ a r).natAbs ≤ 2147483648 ∧ r.length ≤ 1000000
theorem FlatS.call {w0 wS wX : World} {bm ba bl bd bD Br : Nat} {va vl vr : Value} {a l r : List Int} {pr : List Value} (F : FlatS w0 wS bm ba bl bd bD va vl a l) (hc : Chg [bm] wS wX) (hr : RowP wX Br vr r pr) (hBr : w0.heap.size ≤ Br)
    (hneD : ∀ i p, i < r.length → pr[i]? = some p → p ≠ .pointer (some ⟨bD, 0, none⟩)) (hok : FlatOK a l r) :
    Calls Tryz.prog 79 #[vr, .pointer (some ⟨bd, 0, none⟩), .pointer (some ⟨bl, 0, none⟩), .pointer (some ⟨ba, 0, none⟩)] wX (RowRes wX wX.heap.size (flatZ a l r)) := by
  obtain ⟨o1, o2, o3, o4, o5, o6, o7, o8⟩ := hok
  obtain ⟨B, pa, ha⟩ := F.ra
  obtain ⟨SD, hD, hSD⟩ := F.hD
  have hlta := F.lta
  have hltl := F.ltl
  have hltd := F.ltd
  have hbx : Below bm w0 wX := F.bw.trans (hc.below (by have := cell_ltJ F.ca; simp at this; omega) (by simp))
  obtain ⟨pl, hl⟩ := F.rl.chgT hc (by simp)
  exact cut2_any bd bl ba bD SD vr va vl r a l pr pa pl Br B (bm + 1) (dotZ a l) wX hr (ha.below hbx F.bm0) hl (hD.chg hc (fun k hk => by have := hSD k hk; simp; omega))
    ((hc.cellT (p := ⟨bd, 0, none⟩) (cell_ltJ F.cd) (by simp; omega)).trans F.cd) ((hc.cellT (p := ⟨bl, 0, none⟩) (cell_ltJ F.cl) (by simp; omega)).trans F.cl) ((hc.cellT (p := ⟨ba, 0, none⟩) (cell_ltJ F.ca) (by simp; omega)).trans F.ca)
    o1 o2 (ha.apart hr hBr o1) hneD o3 o4 o5 o6 o7 o8

/-- The rows of a row share no number that is made later. -/
def NoNew (H : Nat) (zs : List Int) (ps : List Value) : Prop := ∀ k p, k < zs.length → ps[k]? = some p → ∀ b, H ≤ b → p ≠ .pointer (some ⟨b, 0, none⟩)
theorem noNew_of {w : World} {B : Nat} {v : Value} {zs : List Int} {ps : List Value} (h : RowP w B v zs ps) : NoNew w.heap.size zs ps := fun k p hk hp b hb e => by
  obtain ⟨b', e', _, hlt⟩ := row_ptr_lt h hk hp
  rw [e] at e'
  simp only [Value.pointer.injEq, Option.some.injEq, Addr.mk.injEq, and_true] at e'
  omega
theorem lines_ready {w0 w3 wS : World} {bm U : Nat} {cR cL vR vL vD : Value} {R L D : List (List Int)} {xD : List Value} (h : MakS w0 w3 bm U cR cL vR vL vD R L D xD) (hb : Below w3.heap.size w3 wS) (hne : 0 < L.length) :
    ∃ gL cap, vL = .slice (some ⟨gL, 0, none⟩) L.length cap ∧ ∀ wX, Chg [bm] wS wX → ∀ i (hi : i < L.length), ∃ rv ps, wX.cell? ⟨gL, i, none⟩ = some rv ∧ RowP wX (bm + 1) rv L[i] ps ∧ NoNew w3.heap.size L[i] ps := by
  obtain ⟨xs, hL⟩ := h.lines
  have hU := h.base
  obtain ⟨g, cap, rfl, hg, hgl, hc⟩ := own_cells hL.own hne
  refine ⟨g, cap, rfl, fun wX hX i hi => ?_⟩
  obtain ⟨rv, e1, hr⟩ := hL.rows i hi
  obtain ⟨ps, hr⟩ := hr.mono (B1 := bm + 1) (by omega)
  refine ⟨rv, ps, ?_, (hr.below hb (Nat.le_refl _)).chgT hX (by simp), noNew_of hr⟩
  rw [hX.cellT (by have := hb.size; simp; omega) (by simp; omega), hb.cell (p := ⟨g, i, none⟩) hgl]
  exact hc i rv e1
theorem rays_ready {w0 w3 wS : World} {bm U : Nat} {cR cL vR vL vD : Value} {R L D : List (List Int)} {xD : List Value} (h : MakS w0 w3 bm U cR cL vR vL vD R L D xD) (hb : Below w3.heap.size w3 wS) :
    ∃ oR cap, vR = .slice oR R.length cap ∧ ∀ wX, Chg [bm] wS wX → ∀ i (hi : i < R.length), ∃ gR rv pv ps, oR = some ⟨gR, 0, none⟩ ∧ wX.cell? ⟨gR, i * 2, none⟩ = some rv ∧ wX.cell? ⟨gR, i * 2 + 1, none⟩ = some (.pointer pv) ∧ RowP wX (bm + 1) rv R[i] ps ∧ NoNew w3.heap.size R[i] ps := by
  obtain ⟨xs, hR⟩ := h.rays
  by_cases h0 : 0 < R.length
  · obtain ⟨g, cap, rfl, hg, hgl, hc⟩ := own_cells hR.own h0
    refine ⟨_, cap, rfl, fun wX hX i hi => ?_⟩
    obtain ⟨rv, pv, e1, e2, hr⟩ := hR.rows i hi
    obtain ⟨ps, hr⟩ := hr
    refine ⟨g, rv, pv, ps, rfl, ?_, ?_, (hr.below hb (Nat.le_refl _)).chgT hX (by simp), noNew_of hr⟩
    · rw [hX.cellT (by have := hb.size; simp; omega) (by simp; omega), hb.cell (p := ⟨g, i * 2, none⟩) hgl]
      exact hc _ _ e1
    · rw [hX.cellT (by have := hb.size; simp; omega) (by simp; omega), hb.cell (p := ⟨g, i * 2 + 1, none⟩) hgl]
      exact hc _ _ e2
  · rcases hR.own.2 with ⟨rfl, e⟩ | ⟨g, cap, cur, rfl, _⟩
    · exact ⟨none, 0, by rw [e], fun wX _ i hi => by omega⟩
    · exact ⟨_, cap, rfl, fun wX _ i hi => by omega⟩

theorem lines_flat {w0 w3 wS : World} {bm ba bl bd bD U : Nat} {cR cL vR vL vD va vl : Value} {a l : List Int} {R L D : List (List Int)} {xD : List Value} (F : FlatS w0 wS bm ba bl bd bD va vl a l) (h : MakS w0 w3 bm U cR cL vR vL vD R L D xD) (hb : Below w3.heap.size w3 wS) (hD : w3.heap.size ≤ bD) (hne : 0 < L.length) (hok : ∀ r ∈ L, FlatOK a l r) :
    ∃ gL cap, vL = .slice (some ⟨gL, 0, none⟩) L.length cap ∧ ∀ i (hi : i < L.length), ∃ o c, ∀ wX, Chg [bm] wS wX → wX.cell? ⟨gL, i, none⟩ = some (.slice o a.length c) ∧
      Calls Tryz.prog 79 #[.slice o a.length c, .pointer (some ⟨bd, 0, none⟩), .pointer (some ⟨bl, 0, none⟩), .pointer (some ⟨ba, 0, none⟩)] wX (RowRes wX wX.heap.size (flatZ a l L[i])) := by
  obtain ⟨gL, cap, e, hr⟩ := lines_ready h hb hne
  refine ⟨gL, cap, e, fun i hi => ?_⟩
  obtain ⟨rv, ps, h1, h2, h3⟩ := hr wS (Chg.refl _ _) i hi
  obtain ⟨o, c, rfl⟩ := rowAt_form ⟨ps, h2⟩
  have hk := hok _ (List.getElem_mem hi)
  rw [← hk.1] at h1 h2
  refine ⟨o, c, fun wX hX => ⟨?_, F.call hX (h2.chgT hX (by simp)) (by have := F.bm0; omega) (fun k p hk hp => h3 k p hk hp bD hD) hk⟩⟩
  obtain ⟨rv', _, h1', _⟩ := hr wX hX i hi
  rw [hX.cellT (cell_ltJ h1) (by
    obtain ⟨xs, hL⟩ := h.lines
    obtain ⟨g, c', e2, hg, _⟩ := own_cells hL.own hne
    rw [e] at e2
    simp only [Value.slice.injEq, Option.some.injEq, Addr.mk.injEq, and_true] at e2
    have := h.base
    simp
    omega)]
  exact h1
theorem rays_flat {w0 w3 wS : World} {bm ba bl bd bD U : Nat} {cR cL vR vL vD va vl : Value} {a l : List Int} {R L D : List (List Int)} {xD : List Value} (F : FlatS w0 wS bm ba bl bd bD va vl a l) (h : MakS w0 w3 bm U cR cL vR vL vD R L D xD) (hb : Below w3.heap.size w3 wS) (hD : w3.heap.size ≤ bD) (hok : ∀ r ∈ R, FlatOK a l r) :
    ∃ oR cap, vR = .slice oR R.length cap ∧ ∀ i (hi : i < R.length), ∃ gR o c pv, oR = some ⟨gR, 0, none⟩ ∧ ∀ wX, Chg [bm] wS wX → wX.cell? ⟨gR, i * 2, none⟩ = some (.slice o a.length c) ∧ wX.cell? ⟨gR, i * 2 + 1, none⟩ = some (.pointer pv) ∧
      Calls Tryz.prog 79 #[.slice o a.length c, .pointer (some ⟨bd, 0, none⟩), .pointer (some ⟨bl, 0, none⟩), .pointer (some ⟨ba, 0, none⟩)] wX (RowRes wX wX.heap.size (flatZ a l R[i])) := by
  obtain ⟨oR, cap, e, hr⟩ := rays_ready h hb
  refine ⟨oR, cap, e, fun i hi => ?_⟩
  obtain ⟨gR, rv, pv, ps, rfl, h1, h1', h2, h3⟩ := hr wS (Chg.refl _ _) i hi
  obtain ⟨o, c, rfl⟩ := rowAt_form ⟨ps, h2⟩
  have hk := hok _ (List.getElem_mem hi)
  rw [← hk.1] at h1 h2
  have hg : gR ∉ [bm] := by
    obtain ⟨xs, hR⟩ := h.rays
    obtain ⟨g, c', e2, hg, _⟩ := own_cells hR.own (by omega)
    rw [e] at e2
    simp only [Value.slice.injEq, Option.some.injEq, Addr.mk.injEq, and_true] at e2
    simp
    omega
  refine ⟨gR, o, c, pv, rfl, fun wX hX => ⟨?_, ?_, F.call hX (h2.chgT hX (by simp)) (by have := F.bm0; omega) (fun k p hk hp => h3 k p hk hp bD hD) hk⟩⟩
  · rw [hX.cellT (cell_ltJ h1) hg]
    exact h1
  · rw [hX.cellT (cell_ltJ h1') hg]
    exact h1'

theorem CutI.done {w0 wS wE : World} {bm U : Nat} {cR0 cL0 cR cL vR vL vD : Value} {mR mL R L D : List (List Int)} {ys xs xD : List Value} (h : CutI wS wE bm vD cR cL mR mL ys xs) (hm : MakS w0 wS bm U cR0 cL0 vR vL vD R L D xD) :
    MakS w0 wE bm wS.heap.size cR cL cR cL vD mR mL D xD ∧ ∀ g, vD.ownBlock = some g → g < wS.heap.size :=
  ⟨⟨h.blk, ⟨ys, h.rays⟩, ⟨xs, h.lines⟩, own_chgT hm.done h.chg (by simp), hm.old, h.lt, hm.bw.trans (h.chg.below (Nat.le_of_lt hm.blk.lt) (by simp)), hm.bm0⟩, fun g e => (hm.done.lt g e).2⟩
theorem infoRay : (Tryz.prog.info? 106).map (fun i => (i.zero, i.size, i.bytes)) = some (some (.agg #[.slice none 0 0, .pointer none]), 2, 32) := by kernel_rfl

/-- The numbers of a cut: all small, and each new ray is made 0 by at most one row. -/
def CutOK (a l : List Int) (R L' D : List (List Int)) : Prop :=
  0 < dotZ a l ∧ (∀ r ∈ l :: (L' ++ R), FlatOK a l r) ∧ D.length ≤ 2 ∧ (∀ r ∈ l :: R.map (flatZ a l), OfOK (D ++ [a]) r) ∧ L'.length ≤ 100 ∧ R.length ≤ 100
end Go.Proofs.YtggoncneinlpgaaGreatDoor
