/- Walk: exact.Cone of the two unit rows. -/
import Derived.Test.YtggoncneinlpgaaGreatDoorJ24
namespace Go.Proofs.YtggoncneinlpgaaGreatDoor
open Go Go.RowKit Nt

/-! ### The numbers -/
def stR : Nat → List (List Int)
  | 0 => []
  | 1 => [[1, 0]]
  | _ => [[1, 0], [0, 1]]
def stL : Nat → List (List Int)
  | 0 => unitM
  | 1 => [[0, 1]]
  | _ => []
def stD : Nat → List (List Int)
  | 0 => []
  | 1 => [[1, 0]]
  | _ => unitM
theorem half_unit {r : List Int} (h : r ∈ unitM) : Half r := by
  simp only [unitM, List.mem_cons, List.not_mem_nil, or_false] at h
  rcases h with rfl | rfl <;> (intro z hz; simp only [List.mem_cons, List.not_mem_nil, or_false] at hz; rcases hz with rfl | rfl <;> decide)
theorem flatOK_unit {a l r : List Int} (ha : a ∈ unitM) (hl : l ∈ unitM) (hr : r ∈ unitM) : FlatOK a l r := by
  have h1 := half_unit ha
  have h2 := half_unit hl
  have h3 := half_unit hr
  simp only [unitM, List.mem_cons, List.not_mem_nil, or_false] at ha hl hr
  rcases ha with rfl | rfl <;> rcases hl with rfl | rfl <;> rcases hr with rfl | rfl <;> exact ⟨rfl, rfl, h3, h1, h2, by decide, by decide, by decide⟩
theorem ofOK_one {d r : List Int} (hd : d ∈ unitM) (hr : r ∈ unitM) : OfOK [d] r := by
  refine ⟨half_unit hr, ?_, fun e he => ?_, fun i j hi hj hij => ?_⟩
  · simp only [unitM, List.mem_cons, List.not_mem_nil, or_false] at hr
    rcases hr with rfl | rfl <;> decide
  · simp only [List.mem_cons, List.not_mem_nil, or_false] at he
    subst he
    refine ⟨?_, half_unit hd⟩
    simp only [unitM, List.mem_cons, List.not_mem_nil, or_false] at hd hr
    rcases hd with rfl | rfl <;> rcases hr with rfl | rfl <;> rfl
  · simp at hi hj; omega
theorem ofOK_two {r : List Int} (hr : r ∈ unitM) : OfOK [[1, 0], [0, 1]] r := by
  refine ⟨half_unit hr, ?_, fun e he => ?_, fun i j hi hj hij => ?_⟩
  · simp only [unitM, List.mem_cons, List.not_mem_nil, or_false] at hr
    rcases hr with rfl | rfl <;> decide
  · refine ⟨?_, half_unit he⟩
    simp only [unitM, List.mem_cons, List.not_mem_nil, or_false] at he hr
    rcases he with rfl | rfl <;> rcases hr with rfl | rfl <;> rfl
  · simp only [List.length_cons, List.length_nil] at hi hj
    obtain rfl : i = 0 := by omega
    obtain rfl : j = 1 := by omega
    simp only [unitM, List.mem_cons, List.not_mem_nil, or_false] at hr
    rcases hr with rfl | rfl
    · show dotZ [1, 0] [1, 0] = 0 → dotZ [0, 1] [1, 0] = 0 → False
      decide
    · show dotZ [1, 0] [0, 1] = 0 → dotZ [0, 1] [0, 1] = 0 → False
      decide
theorem flat1 : flatZ [1, 0] [1, 0] [0, 1] = [0, 1] := by decide +kernel
theorem flat2 : flatZ [0, 1] [0, 1] [1, 0] = [1, 0] := by decide +kernel
theorem cutOK_one : CutOK [1, 0] [1, 0] [] [[0, 1]] [] := by
  refine ⟨by decide, fun r hr => ?_, by decide, fun r hr => ?_, by decide, by decide⟩
  · refine flatOK_unit (by decide) (by decide) ?_
    simpa [unitM] using hr
  · exact ofOK_one (by decide) (by simp at hr; subst hr; decide)
theorem cutOK_two : CutOK [0, 1] [0, 1] [[1, 0]] [] [[1, 0]] := by
  refine ⟨by decide, fun r hr => ?_, by decide, fun r hr => ?_, by decide, by decide⟩
  · refine flatOK_unit (by decide) (by decide) ?_
    simp at hr
    rcases hr with rfl | rfl <;> decide
  · refine ofOK_two ?_
    simp only [List.map_cons, List.map_nil, flat2] at hr
    simp at hr
    rcases hr with rfl | rfl <;> decide

/-! ### The two cuts -/
def ConeS (w wr : World) (bm k : Nat) (vD : Value) : Prop :=
  ∃ U cR cL xD, MakS w wr bm U cR cL cR cL vD (stR k) (stL k) (stD k) xD ∧ (∀ g, vD.ownBlock = some g → g < U) ∧ (k = 2 → cL = .slice none 0 0)
theorem cone_cut (w wr : World) (bm k B : Nat) (vD va : Value) (a : List Int) (pa : List Value) (h : ConeS w wr bm k vD) (hk : k < 2) (hk2 : unitM[k]? = some a) (ha : RowP w B va a pa) :
    Calls Tryz.prog 52 #[.pointer (some ⟨bm, 0, none⟩), va, .bool false] wr fun e w' => e = .returned (.tuple #[]) ∧ ∃ vD', ConeS w w' bm (k + 1) vD' ∧ Chg (bm :: vD.ownBlock.toList) wr w' ∧ ∀ g, vD'.ownBlock = some g → vD.ownBlock = some g ∨ wr.heap.size ≤ g := by
  obtain ⟨U, cR, cL, xD, hM, hs, _⟩ := h
  rcases (show k = 0 ∨ k = 1 by omega) with rfl | rfl
  · obtain rfl : a = [1, 0] := by simpa [unitM] using hk2.symm
    refine (cut_any w wr bm U B va cR cL vD [1, 0] [1, 0] [] [[0, 1]] [] xD pa hM hs ha cutOK_one).mono ?_
    rintro e w' ⟨rfl, U', vR', vL', vD', xD', m1, m2, m3, m4, m5⟩
    refine ⟨rfl, vD', ⟨U', vR', vL', xD', ?_, m2, fun e => by omega⟩, m4, m5⟩
    have e1 : ([[0, 1]] : List (List Int)).map (flatZ [1, 0] [1, 0]) = stL 1 := by rw [List.map_cons, flat1]; rfl
    rw [e1] at m1
    exact m1
  · obtain rfl : a = [0, 1] := by simpa [unitM] using hk2.symm
    refine (cut_any w wr bm U B va cR cL vD [0, 1] [0, 1] [[1, 0]] [] [[1, 0]] xD pa hM hs ha cutOK_two).mono ?_
    rintro e w' ⟨rfl, U', vR', vL', vD', xD', m1, m2, m3, m4, m5⟩
    refine ⟨rfl, vD', ⟨U', vR', vL', xD', ?_, m2, fun _ => m3 rfl⟩, m4, m5⟩
    have e1 : ([[1, 0]] : List (List Int)).map (flatZ [0, 1] [0, 1]) ++ [[0, 1]] = stR 2 := by rw [List.map_cons, flat2]; rfl
    rw [e1] at m1
    exact m1

/-! ### Words on memory -/
theorem vals_get {L : List Num} {k : Nat} {z : Int} (h : (vals L)[k]? = some z) : ∃ b S, L[k]? = some (b, z, S) := by
  simp only [vals, List.getElem?_map, Option.map_eq_some_iff] at h
  obtain ⟨⟨b, z', S⟩, h1, rfl⟩ := h
  exact ⟨b, S, h1⟩
theorem rowF_set {w1 w2 : World} {B k b : Nat} {v : Value} {L : List Num} {z z' : Int} {S S' : List Nat} (h : RowF w1 B v L) (hk : L[k]? = some (b, z, S)) (hf : IntF w2 b z' S') (hS : ∀ x, x ∈ S' → x ∈ S ∨ w1.heap.size ≤ x) (hc : Chg S w1 w2) : RowAt w2 B v ((vals L).set k z') := by
  have h1 : ptrs (L.set k (b, z', S')) = ptrs L := by
    unfold ptrs
    rw [List.map_set]
    apply List.ext_getElem?
    intro i
    by_cases e : k = i
    · subst e
      have hl := (List.getElem?_eq_some_iff.1 hk).1
      rw [List.getElem?_set_self (by simpa using hl), List.getElem?_map, hk]
      rfl
    · rw [List.getElem?_set_ne e]
  have h2 : vals (L.set k (b, z', S')) = (vals L).set k z' := by simp [vals, List.map_set]
  have hR : RowF w2 B v (L.set k (b, z', S')) := ⟨by
    rw [h1]
    have := ownsRow_chg h.own (h.fam.int k b z S hk).1 hc (by decide) (by decide)
    simpa using this, h.fam.set hk hf hS hc⟩
  exact ⟨_, h2 ▸ hR.rowP⟩
/-- A row of numbers stays where a row of rows turns. -/
theorem RowP.chgRow {w w' : World} {B g : Nat} {v : Value} {zs : List Int} {ps : List Value} {cs : Array Value} (h : RowP w B v zs ps) (hb : Blk w g cs 47) (hc : Chg [g] w w') : RowP w' B v zs ps := by
  refine ⟨?_, fun i hi => ?_⟩
  · rcases h.own.2 with h' | ⟨g', cap, cur, rfl, hB, hb', hr⟩
    · exact ⟨h.own.1, .inl h'⟩
    · have hb2 : Blk w g' cur 49 := hb'
      have hne := hb2.ne hb (by decide)
      exact ⟨h.own.1, .inr ⟨g', cap, cur, rfl, hB, (hc.block g' hb2.lt (by simpa using hne)).trans hb', hr⟩⟩
  · obtain ⟨p, hp, b, S, rfl, hf, hS⟩ := h.ints i hi
    refine ⟨_, hp, b, S, rfl, hf.chg hc fun k hk hkg => ?_, hS⟩
    simp only [List.mem_cons, List.not_mem_nil, or_false] at hkg
    subst hkg
    exact hf.notRow hk (by decide) (by decide) hb

theorem rowF_form {w : World} {B : Nat} {v : Value} {L : List Num} (h : RowF w B v L) (hl : L.length = 2) : ∃ g c, v = .slice (some ⟨g, 0, none⟩) 2 c ∧ g < w.heap.size ∧ ∀ j u, (ptrs L)[j]? = some u → w.cell? ⟨g, j, none⟩ = some u := by
  obtain ⟨g, c, e, _, h2, h3⟩ := own_cells h.own (by omega)
  exact ⟨g, c, by rw [e, hl], h2, h3⟩
theorem unit_norm {z : List Int} (h : z ∈ unitM) : One z ∧ normZ z = z ∧ z.length = 2 := by
  refine ⟨fun x hx => by have := half_unit h x hx; omega, ?_⟩
  simp only [unitM, List.mem_cons, List.not_mem_nil, or_false] at h
  rcases h with rfl | rfl
  · exact ⟨by decide +kernel, rfl⟩
  · exact ⟨by decide +kernel, rfl⟩
/-- The rows that are told of in the end, so far. -/
def OutI (wL : World) (bm : Nat) (v : Value) (k : Nat) (zs : List Value) (wx : World) : Prop :=
  Below wL.heap.size wL wx ∧ wx.ownsRow wL.heap.size 47 1 v k zs ∧ ∀ i z, (stR 2)[i]? = some z → i < k → ∃ rv, zs[i]? = some rv ∧ RowAt wx (bm + 1) rv z
theorem OutI.push {wL wx w2 w3 : World} {bm k : Nat} {v v' rv : Value} {z : List Int} {zs : List Value} {o : Obj} (h : OutI wL bm v k zs wx) (hb : Below wx.heap.size wx w2) (hr : RowAt w2 (bm + 1) rv z) (hz : (stR 2)[k]? = some z)
    (hown : w3.ownsRow wL.heap.size 47 1 v' (k + 1) (zs ++ [rv])) (hg : (w2.alloc o).grownBy w3 v.ownBlock) : OutI wL bm v' (k + 1) (zs ++ [rv]) w3 := by
  obtain ⟨h1, h2, h3⟩ := h
  have hbo : Below w2.heap.size w2 (w2.alloc o) := (Below.refl _ _).alloc (Nat.le_refl _) o
  have h2' := ownsRow_below (ownsRow_below h2 hb (Nat.le_refl _)) hbo (Nat.le_refl _)
  have hle := h1.size
  have hb2 := h1.trans (hb.mono hle)
  have hb3 := hb2.trans (hbo.mono hb2.size)
  have hl : zs.length = k := by simpa using h2.1
  refine ⟨hb3.grown hg hb3.size (fun g e => (h2'.lt g e).1), hown, fun i z' hi hik => ?_⟩
  by_cases e : i < k
  · obtain ⟨rv', e1, e2⟩ := h3 i z' hi e
    exact ⟨rv', by rw [List.getElem?_append_left (by omega)]; exact e1, ((e2.below hb (Nat.le_refl _)).below hbo (Nat.le_refl _)).grown h2' hg (by decide) (by decide) (by decide)⟩
  · have : i = k := by omega
    subst this
    rw [hz] at hi
    obtain rfl := Option.some.inj hi
    exact ⟨rv, by rw [List.getElem?_append_right (by omega), hl]; simp, (hr.below hbo (Nat.le_refl _)).grown h2' hg (by decide) (by decide) (by decide)⟩

set_option maxRecDepth 100000 in
set_option maxHeartbeats 4000000 in
theorem cone_unit : ConeUnit := by
  intro w B r xs hB hr
  obtain ⟨i0, hi, hzz⟩ := Option.map_eq_some_iff.1 infoRw
  simp only [Prod.mk.injEq] at hzz
  obtain ⟨hz0, hz1, hz2⟩ := hzz
  have HI := Lib.hid hi
  have HZ0 := Lib.hid hz0
  have HZ1 := Lib.hid hz1
  have HZ2 := Lib.hid hz2
  clear hi hz0 hz1 hz2
  obtain ⟨gr, cr, rfl, x1, x2, x3⟩ := own_cells hr.own (show 0 < unitM.length by decide)
  have hown : w.ownsRow B 47 1 (.slice (some ⟨gr, 0, none⟩) 2 cr) 2 xs := hr.own
  obtain ⟨r0, e0, a0'⟩ := hr.rows 0 (by decide)
  obtain ⟨r1, e1, a1'⟩ := hr.rows 1 (by decide)
  have a0 : RowAt w B r0 [1, 0] := a0'
  have a1 : RowAt w B r1 [0, 1] := a1'
  have hxl : xs.length = 2 := by simpa using hown.1
  obtain rfl : xs = [r0, r1] := by
    match xs, hxl, e0, e1 with
    | [y0, y1], _, e0, e1 => simp at e0 e1; subst e0 e1; rfl
  obtain ⟨o0, c0, rfl⟩ : ∃ o c, r0 = .slice o 2 c := rowAt_form a0
  obtain ⟨o1, c1, rfl⟩ : ∃ o c, r1 = .slice o 2 c := rowAt_form a1
  have HO := Lib.hid hown
  have HA0 := Lib.hid a0
  have HA1 := Lib.hid a1
  have hmk : ∀ w : World, (Instr.makeSlice 23 (.int .i64 2) (.int .i64 2)).run Tryz.prog w = .ok (.slice (some ⟨w.heap.size, 0, none⟩) 2 2) (w.alloc (.cells #[.int .i64 0, .int .i64 0] 3)) := fun w => by kernel_rfl
  change Calls Tryz.prog 37 #[.int .i64 2, .slice (some ⟨gr, 0, none⟩) 2 cr, .slice none 0 0] w _
  clear hr hown a0 a1 a0' a1' e0 e1 hxl x1 x2 x3 hB
  go_enter Tryz.func37, Tryz.ntmps37
  go_wp2_with fail
  go_loopw [18] (fun i wr => ∃ (k : Nat) (cL : Value) (ys : List Value), k ≤ 2 ∧ i = .int .i64 k ∧ Hid (Blk wr w.heap.size #[.slice none 0 0, cL, .slice none 0 0] 101) ∧ Hid (OwnR wr (w.heap.size + 1) cL (unitM.take k) ys) ∧ Hid (Below w.heap.size w wr)) (fun i _ => 2 - (intOf i).toNat)
  case atStart => exact ⟨0, _, [], by omega, rfl, Blk.new w _ _, OwnR.nil _ _, (Below.refl _ _).alloc (Nat.le_refl _) _⟩
  case round =>
    obtain ⟨k, cL, ys, hk, rfl, hM, hL, hbw⟩ := hrel
    by_cases hlt : k < 2
    · have HOF := Lib.hid (ofF_any _ [0, 0] _ (sliceI_two wr 0 0 3) (by unfold I64; decide) (by decide))
      have hku : k < unitM.length := hlt
      have HT := Lib.hid (List.take_succ_eq_append_getElem hku)
      have HU : Hid (([0, 0] : List Int).set k 1 = unitM[k]) := by
        rcases (show k = 0 ∨ k = 1 by omega) with rfl | rfl <;> rfl
      have HZ : Hid (([0, 0] : List Int)[k]? = some 0) := by
        rcases (show k = 0 ∨ k = 1 by omega) with rfl | rfl <;> rfl
      have hwr : w.heap.size < wr.heap.size := hM.out.lt
      obtain ⟨u, hu⟩ : ∃ u, unitM[k] = u := ⟨_, rfl⟩
      rw [hu] at HT HU
      have HLT := Lib.hid (show (unitM.take k).length = k by rw [List.length_take]; show min k 2 = k; omega)
      clear hu hku
      go_wp2_with fail
      refine HOF.out.mono ?_
      rintro e w1 ⟨v, L, rfl, hrow, hvals, hb1⟩
      have hb1' : Below wr.heap.size wr w1 := ((Below.refl _ _).alloc (Nat.le_refl _) _).trans (hb1.mono (by simp))
      have hlen : L.length = 2 := by have := congrArg List.length hvals; simpa [vals] using this
      obtain ⟨b, S, hbk⟩ := vals_get (L := L) (k := k) (z := 0) (by rw [hvals]; exact HZ.out)
      obtain ⟨hf, hS⟩ := hrow.fam.int k b 0 S hbk
      obtain ⟨gv, cv, rfl, hgvl, hcv⟩ := rowF_form hrow hlen
      have hp : w1.cell? ⟨gv, k, none⟩ = some (.pointer (some ⟨b, 0, none⟩)) := hcv k _ (by simp [ptrs, hbk])
      have HS := Lib.hid (setInt64_one b 0 S w1 hf)
      have HROW := Lib.hid hrow
      have HBK := Lib.hid hbk
      have HVALS := Lib.hid hvals
      have HSS := Lib.hid hS
      have HB1 := Lib.hid hb1'
      clear hrow hvals hb1 hb1' hlen hf hS hbk hcv
      go_wp2_with fail
      refine HS.out.mono ?_
      rintro e w2 ⟨S', rfl, hf2, hS2, hc2⟩
      have hra := rowF_set HROW.out HBK.out hf2 hS2 hc2
      rw [HVALS.out, HU.out] at hra
      have hb2 : Below wr.heap.size wr w2 := HB1.out.trans (hc2.below HB1.out.size (fun x hx => by have := HSS.out x hx; simp at this; omega))
      have hra' := hra.mono (B1 := w.heap.size + 1) (by simp; omega)
      have hm2 := hM.out.below hb2 hwr
      have m1 : w2.cell? ⟨w.heap.size, 1, none⟩ = some cL := hm2.cell 1
      have hl2 := hL.out.below hb2
      have hown2 := hl2.own
      rw [HLT.out] at hown2
      have hs2 := hb2.size
      have HM2 := Lib.hid hm2
      have HL2 := Lib.hid hl2
      have HRA := Lib.hid hra'
      have HB2 := Lib.hid hb2
      clear hf2 hS2 hc2 hra hra' hm2 hl2 hb2 hp hgvl HS HROW
      go_wp2_with (at_builtin; refine wpList_append_own _ rfl (.tmp 33) (.tmp 35) 71 rfl (w.heap.size + 1) 47 i0 (.slice none 0 0) 1 24 Tryz.underlying71 HI.out HZ0.out HZ1.out HZ2.out rfl (by decide) _ k ys rfl (hown2.alloc _) ⟨w2.heap.size, 0, none⟩ 1 1 [.slice (some ⟨gv, 0, none⟩) 2 cv] rfl rfl ?c1 ?c2 ?c3 ?c4 ?c5 ?_)
      case c1 =>
        intro j u hj
        match j, hj with
        | 0, hj => simp at hj; subst hj; simp [Addr.add]
      case c2 => intro u' hu'; simp at hu'; subst hu'; rfl
      case c3 => unfold maxLen; omega
      case c4 => omega
      case c5 => simp; omega
      · intro v' w3 hown' hgrow _
        obtain ⟨gn, cn, rfl, x1, x2, x3⟩ := own_cells hown' (by omega)
        clear x1 x2 x3
        have hbo : Below w2.heap.size w2 (w2.alloc (.cells #[.slice (some ⟨gv, 0, none⟩) 2 cv] 47)) := (Below.refl _ _).alloc (Nat.le_refl _) _
        have hm3 := (HM2.out.alloc (.cells #[.slice (some ⟨gv, 0, none⟩) 2 cv] 47)).grownT hgrow (fun e => by have := (hown2.lt _ e.symm).1; omega)
        have m3 : w3.cell? ⟨w.heap.size, 1, none⟩ = some cL := hm3.cell 1
        have n3 := hm3.free 1
        have hO := (HL2.out.below hbo).push (r := u) (HRA.out.below hbo (Nat.le_refl _)) (by rw [HLT.out]; exact hown') hgrow
        rw [← HT.out] at hO
        have hc3 : Chg [w.heap.size] w3 (w3.setCell ⟨w.heap.size, 1, none⟩ (.slice (some ⟨gn, 0, none⟩) (k + 1) cn)) := (Chg.refl _ _).setCell (.inl (by simp)) _
        have HO3 := Lib.hid (hO.chgT hc3 (by simp))
        have HM3 := Lib.hid (show Blk (w3.setCell ⟨w.heap.size, 1, none⟩ (.slice (some ⟨gn, 0, none⟩) (k + 1) cn)) w.heap.size #[.slice none 0 0, .slice (some ⟨gn, 0, none⟩) (k + 1) cn, .slice none 0 0] 101 by simpa using hm3.set 1 (.slice (some ⟨gn, 0, none⟩) (k + 1) cn))
        have HB3 := Lib.hid (Below.setCell (p := ⟨w.heap.size, 1, none⟩) (((hbw.out.trans (HB2.out.mono (by omega))).alloc (by omega) _).grown hgrow (by simp; omega) (fun g hg => by have := (hown2.lt g hg).1; omega)) (Nat.le_refl _) (.slice (some ⟨gn, 0, none⟩) (k + 1) cn))
        clear hown' hgrow hbo hm3 hO hc3 hown2
        go_wp2_with fail
        go_roundw
        case rel => exact ⟨k + 1, _, _, by omega, by go_num, HM3, HO3, HB3⟩
        case measure => simp [intOf]; omega
    · obtain rfl : k = 2 := by omega
      have hu : wr.ownsRow B 47 1 (.slice (some ⟨gr, 0, none⟩) 2 cr) 2 [.slice o0 2 c0, .slice o1 2 c1] := ownsRow_below HO.out hbw.out (Nat.le_refl _)
      have hbb : Below wr.heap.size wr (wr.alloc (.cells #[.slice none 0 0, .slice (some ⟨gr, 0, none⟩) 2 cr] 71)) := (Below.refl _ _).alloc (Nat.le_refl _) _
      have HCC := Lib.hid (concatR_two wr.heap.size (.slice (some ⟨gr, 0, none⟩) 2 cr) B [.slice o0 2 c0, .slice o1 2 c1] (wr.alloc (.cells #[.slice none 0 0, .slice (some ⟨gr, 0, none⟩) 2 cr] 71)) (by simp) (by simp) (ownsRow_below hu hbb (Nat.le_refl _)) (by intro u hu; simp at hu; rcases hu with rfl | rfl <;> rfl))
      have HBB := Lib.hid hbb
      have hwr : w.heap.size < wr.heap.size := hM.out.lt
      clear hu hbb
      go_wp2_with fail
      refine HCC.out.mono ?_
      rintro e w4 ⟨v, rfl, hov, hb4⟩
      obtain ⟨gv, cv, rfl, hgv, hgvl, hcv⟩ := own_cells hov (by omega)
      have hb4' : Below wr.heap.size wr w4 := HBB.out.trans (hb4.mono (by simp))
      have HSt : Hid (ConeS w w4 w.heap.size 0 (.slice none 0 0)) :=
        ⟨w.heap.size + 1, .slice none 0 0, cL, [], ⟨hM.out.below hb4' hwr, ⟨[], RaysR.nil _ _⟩, ⟨ys, hL.out.below hb4'⟩, World.ownsRow_nil _ _ _ _, fun i hi => by simp [stD] at hi, by omega, hbw.out.trans (hb4'.mono (by omega)), Nat.le_refl _⟩, fun g e => by simp [Value.ownBlock] at e, fun e => by omega⟩
      have HC4 : Hid (w4.cell? ⟨gv, 0, none⟩ = some (.slice o0 2 c0) ∧ w4.cell? ⟨gv, 1, none⟩ = some (.slice o1 2 c1)) := ⟨hcv 0 _ rfl, hcv 1 _ rfl⟩
      have hgvw : w.heap.size < gv := by simp at hgv; omega
      clear hov hb4 hb4' hcv hgv hgvl hM hL HCC
      go_wp2_with fail
      go_loopw [45] (fun i wr => ∃ (k : Nat) (vD : Value), k ≤ 2 ∧ i = .int .i64 k ∧ Hid (ConeS w wr w.heap.size k vD) ∧ Hid (wr.cell? ⟨gv, 0, none⟩ = some (.slice o0 2 c0) ∧ wr.cell? ⟨gv, 1, none⟩ = some (.slice o1 2 c1)) ∧ Hid (vD.ownBlock ≠ some gv)) (fun i _ => 2 - (intOf i).toNat)
      case atStart => exact ⟨0, _, by omega, rfl, HSt, HC4, fun e => by simp [Value.ownBlock] at e⟩
      case round =>
        obtain ⟨k, vD, hk, rfl, hS, hC, hV⟩ := hrel
        by_cases hlt : k < 2
        · have hrow : ∃ o c a pa, wr.cell? ⟨gv, k, none⟩ = some (.slice o 2 c) ∧ unitM[k]? = some a ∧ RowP w B (.slice o 2 c) a pa := by
            rcases (show k = 0 ∨ k = 1 by omega) with rfl | rfl
            · obtain ⟨pa, hp⟩ := HA0.out
              exact ⟨o0, c0, _, pa, hC.out.1, rfl, hp⟩
            · obtain ⟨pa, hp⟩ := HA1.out
              exact ⟨o1, c1, _, pa, hC.out.2, rfl, hp⟩
          obtain ⟨oc, cc, a, pa, hcell, hka, hpa⟩ := hrow
          have HC := Lib.hid (cone_cut w wr w.heap.size k B vD _ a pa hS.out hlt hka hpa)
          have hgl := cell_ltJ hcell
          simp only at hgl
          have hd0 : decide ((k : Int) < 0) = false := by simp
          clear hka hpa
          go_wp2_with fail
          refine HC.out.mono ?_
          rintro e w5 ⟨rfl, vD', hS5, hc5, hv5⟩
          have hnot : gv ∉ w.heap.size :: vD.ownBlock.toList := by
            intro h
            rcases List.mem_cons.1 h with h | h
            · omega
            · exact hV.out (by simpa using h)
          have HS5 := Lib.hid hS5
          have HC5 := Lib.hid (show w5.cell? ⟨gv, 0, none⟩ = some (.slice o0 2 c0) ∧ w5.cell? ⟨gv, 1, none⟩ = some (.slice o1 2 c1) from ⟨(hc5.cellT (p := ⟨gv, 0, none⟩) hgl hnot).trans hC.out.1, (hc5.cellT (p := ⟨gv, 1, none⟩) hgl hnot).trans hC.out.2⟩)
          have HV5 := Lib.hid (show vD'.ownBlock ≠ some gv from fun e => by
            rcases hv5 gv e with h | h
            · exact hV.out h
            · omega)
          clear hS5 hc5 hv5 hnot hcell HC
          go_wp2_with fail
          go_roundw
          case rel => exact ⟨k + 1, vD', by omega, by go_num, HS5, HC5, HV5⟩
          case measure => simp [intOf]; omega
        · obtain rfl : k = 2 := by omega
          obtain ⟨wL, hwL⟩ : ∃ x : World, wr = x := ⟨_, rfl⟩
          rw [hwL] at hS ⊢
          clear hwL hC hV HC4 HSt
          obtain ⟨U, cR, cL2, xD, hMS, hsep, hnil⟩ := hS.out
          obtain rfl := hnil rfl
          obtain ⟨zs, hR⟩ := hMS.rays
          obtain ⟨gR, cRc, rfl, hgR, hgRl, hcR⟩ := own_cells hR.own (by decide)
          have hRc : ∀ k, k < 2 → Hid (∃ o c pv z, wL.cell? ⟨gR, k * 2, none⟩ = some (.slice o 2 c) ∧ wL.cell? ⟨gR, k * 2 + 1, none⟩ = some (.pointer pv) ∧ RowAt wL (w.heap.size + 1) (.slice o 2 c) z ∧ (stR 2)[k]? = some z ∧ z ∈ unitM) := fun k hk => by
            obtain ⟨rv, pv, h1, h2, h3⟩ := hR.rows k hk
            have hz : (stR 2)[k]'hk ∈ unitM := by
              rcases (show k = 0 ∨ k = 1 by omega) with rfl | rfl
              · show ([1, 0] : List Int) ∈ unitM
                decide
              · show ([0, 1] : List Int) ∈ unitM
                decide
            obtain ⟨o, c, rfl⟩ := rowAt_form h3
            have hl := (unit_norm hz).2.2
            rw [hl] at h1 h3
            exact ⟨o, c, pv, _, hcR _ _ h1, hcR _ _ h2, h3, List.getElem?_eq_getElem hk, hz⟩
          have HRC := Lib.hid hRc
          have m0 : wL.cell? ⟨w.heap.size, 0, none⟩ = some (.slice (some ⟨gR, 0, none⟩) 2 cRc) := hMS.blk.cell 0
          have m1 : wL.cell? ⟨w.heap.size, 1, none⟩ = some (.slice none 0 0) := hMS.blk.cell 1
          have hbmL : w.heap.size < wL.heap.size := hMS.blk.lt
          have HBWL := Lib.hid hMS.bw
          clear hMS hsep hnil hR hgR hcR hRc hS
          go_wp2_with fail
          refine (reduced_nil wL).mono ?_
          rintro e w6 ⟨rfl, rfl⟩
          go_wp2_with fail
          go_loopw [6, 68] (fun v i wx => ∃ (k : Nat) (zs : List Value), k ≤ 2 ∧ i = .int .i64 k ∧ Hid (OutI wL w.heap.size v k zs wx)) (fun _ i _ => 2 - (intOf i).toNat)
          case atStart => exact ⟨0, [], by omega, rfl, Below.refl _ _, World.ownsRow_nil _ _ _ _, fun i z _ h => by omega⟩
          case round =>
            obtain ⟨k, zs, hk, rfl, hI⟩ := hrel
            by_cases hlt : k < 2
            · obtain ⟨oc, cc, pv, z, p0, p1, hra, hz, hzu⟩ := (HRC.out k hlt).out
              have hb := hI.out.1
              have p0' : wr.cell? ⟨gR, k * 2, none⟩ = some (.slice oc 2 cc) := (hb.cell (p := ⟨gR, k * 2, none⟩) hgRl).trans p0
              have p1' : wr.cell? ⟨gR, k * 2 + 1, none⟩ = some (.pointer pv) := (hb.cell (p := ⟨gR, k * 2 + 1, none⟩) hgRl).trans p1
              have hbb : Below wr.heap.size wr (wr.alloc (.cells #[.slice oc 2 cc, .pointer pv] 106)) := (Below.refl _ _).alloc (Nat.le_refl _) _
              have hLr := hb.size
              obtain ⟨hn1, hn2, hn3⟩ := unit_norm hzu
              have hcl := cleared_nil (.slice oc 2 cc) z (w.heap.size + 1) _ ((hra.below hb (Nat.le_refl _)).below hbb (Nat.le_refl _)) (by simp; omega) hn1 (by omega)
              rw [hn2] at hcl
              have HCL := Lib.hid hcl
              have HBB := Lib.hid hbb
              have HZ := Lib.hid hz
              have HN3 := Lib.hid hn3
              clear p0 p1 hra hz hzu hb hbb hn1 hn2 hn3 hcl
              go_wp2_with fail
              refine HCL.out.mono ?_
              rintro e w7 ⟨v7, rfl, hr7, hb7⟩
              obtain ⟨o7, c7, rfl⟩ := rowAt_form hr7
              have hb7' : Below wr.heap.size wr w7 := HBB.out.trans (hb7.mono (by simp))
              have hown7 := ownsRow_below hI.out.2.1 hb7' (Nat.le_refl _)
              have hs7 := hb7'.size
              have HR7 := Lib.hid hr7
              have HB7 := Lib.hid hb7'
              clear hr7 hb7 hb7' HCL p0' p1'
              go_wp2_with (at_builtin; refine wpList_append_own _ rfl (.tmp 72) (.tmp 77) 71 rfl wL.heap.size 47 i0 (.slice none 0 0) 1 24 Tryz.underlying71 HI.out HZ0.out HZ1.out HZ2.out rfl (by decide) _ k zs rfl (hown7.alloc _) ⟨w7.heap.size, 0, none⟩ 1 1 [.slice o7 z.length c7] rfl rfl ?d1 ?d2 ?d3 ?d4 ?d5 ?_)
              case d1 =>
                intro j u hj
                match j, hj with
                | 0, hj => simp at hj; subst hj; simp [Addr.add]
              case d2 => intro u' hu'; simp at hu'; subst hu'; rfl
              case d3 => unfold maxLen; omega
              case d4 => omega
              case d5 => simp; omega
              · intro v' w8 hown' hgrow _
                have HIN := Lib.hid (hI.out.push HB7.out HR7.out HZ.out hown' hgrow)
                clear hown' hgrow hown7
                go_wp2_with fail
                go_roundw
                case rel => exact ⟨k + 1, _, by omega, by go_num, HIN⟩
                case measure => simp [intOf]; omega
            · obtain rfl : k = 2 := by omega
              obtain ⟨hb, hown, hrows⟩ := hI.out
              obtain ⟨va, ea, pa, ra⟩ := hrows 0 [1, 0] rfl (by omega)
              obtain ⟨vb, eb, pb, rb⟩ := hrows 1 [0, 1] rfl (by omega)
              rcases hown.2 with ⟨_, e⟩ | ⟨g6, c6, cur, rfl, hB6, hblk, h1, h2, h3, h4⟩
              · omega
              · have hblk' : Blk wr g6 cur 47 := hblk
                have ca : cur[0]? = some va := by
                  rw [← h4] at ea
                  rw [List.getElem?_take_of_lt (by omega)] at ea
                  simpa using ea
                have cb : cur[1]? = some vb := by
                  rw [← h4] at eb
                  rw [List.getElem?_take_of_lt (by omega)] at eb
                  simpa using eb
                have hd1 : ∀ i (h1 : i < ([0, 1] : List Int).length) (h2 : i < ([1, 0] : List Int).length), ([0, 1] : List Int)[i] ≠ ([1, 0] : List Int)[i] := fun i h1 h2 => by
                  rcases (show i = 0 ∨ i = 1 by simp at h1; omega) with rfl | rfl
                  · show (0 : Int) ≠ 1
                    decide
                  · show (1 : Int) ≠ 0
                    decide
                have hd2 : ∀ i (h1 : i < ([1, 0] : List Int).length) (h2 : i < ([0, 1] : List Int).length), ([1, 0] : List Int)[i] ≠ ([0, 1] : List Int)[i] := fun i h1 h2 => (hd1 i h2 h1).symm
                have HSO := Lib.hid (sort_two g6 c6 va vb [1, 0] [0, 1] pa pb _ _ wr cur hblk' ca cb h1 ra rb rfl (rb.apartV ra hd1 rfl) (by decide) (by decide))
                have HD2 := Lib.hid hd2
                have HRA := Lib.hid ra
                have HRB := Lib.hid rb
                have HBK := Lib.hid hblk'
                have HB := Lib.hid hb
                clear hI hb hown hrows ea eb ra rb hblk h2 h3 h4 hblk' ca cb hd1 hd2
                go_wp2_with fail
                refine HSO.out.mono ?_
                rintro e w8 ⟨rfl, hc8, cs8, hb8, hs8, v80, v81⟩
                have ra8 := HRA.out.chgRow HBK.out hc8
                have rb8 := HRB.out.chgRow HBK.out hc8
                have k0 := (hb8.cell 0).trans v80
                have k1 := (hb8.cell 1).trans v81
                have HCM := Lib.hid (compactR_two g6 c6 vb va [0, 1] [1, 0] pb pa _ _ w8 k0 k1 h1 rb8 ra8 rfl (ra8.apartV rb8 HD2.out rfl) (by decide) (by decide))
                have HEND : ∀ q, Hid (RowsR (w8.drewN q) (w.heap.size + 1) (.slice (some ⟨g6, 0, none⟩) 2 c6) raysM ∧ Below w.heap.size w (w8.drewN q)) := fun q => by
                  have hq : Below w8.heap.size w8 (w8.drewN q) := below_drewN' (Below.refl _ _) q
                  refine ⟨⟨_, c6, rfl, fun _ => ⟨g6, 0, rfl, hb8.lt, fun i hi => ?_⟩⟩, below_drewN' ((HBWL.out.trans (HB.out.mono (by omega))).trans (hc8.below (by have := HB.out.size; omega) (by simp; omega))) q⟩
                  rcases (show i = 0 ∨ i = 1 by simp [raysM] at hi; omega) with rfl | rfl
                  · exact ⟨vb, k0, _, rb8.below hq (Nat.le_refl _)⟩
                  · exact ⟨va, k1, _, ra8.below hq (Nat.le_refl _)⟩
                have HE := Lib.hid HEND
                clear hc8 hb8 hs8 v80 v81 ra8 rb8 k0 k1 HEND
                go_wp2_with fail
                refine HCM.out.mono ?_
                rintro e w9 ⟨rfl, q, rfl⟩
                go_wp2_with fail
                go_ret2
                exact ⟨_, w.heap.size + 1, rfl, (HE.out q).out.1, (HE.out q).out.2⟩
end Go.Proofs.YtggoncneinlpgaaGreatDoor
