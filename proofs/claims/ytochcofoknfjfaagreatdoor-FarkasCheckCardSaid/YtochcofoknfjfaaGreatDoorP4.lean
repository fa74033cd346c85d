/- Walk of the reference: OwnPoly. -/
import Derived.Test.YtochcofoknfjfaaGreatDoorP3
import Derived.Deep.RegionHeld3
import Derived.Deep.AppendLies
namespace Go.Proofs.YtochcofoknfjfaaGreatDoor
open Go Go.RowKit Nt

/-- A row of rows of the call's own: its cells, and each row's numbers, in rows of the call's own, too. -/
structure OwnRows (w : World) (base : Nat) (ov : Value) (rs : List RowZ) (xs : List Value) : Prop where
  own : w.ownsRow base 31 3 ov rs.length xs
  rows : ∀ i (h : i < rs.length), ∃ av, xs[i * 3]? = some (.bool rs[i].eq) ∧ xs[i * 3 + 1]? = some av ∧ w.ownsRow base 3 1 av rs[i].a.length (rs[i].a.map (Value.int .i64)) ∧ xs[i * 3 + 2]? = some (.int .i64 rs[i].b)

theorem own_types_ne {w : World} {b1 b2 e1 e2 s1 s2 n1 n2 : Nat} {v1 v2 : Value} {x1 x2 : List Value} (h1 : w.ownsRow b1 e1 s1 v1 n1 x1) (h2 : w.ownsRow b2 e2 s2 v2 n2 x2) (hne : e1 ≠ e2) : v1.ownBlock = none ∨ v1.ownBlock ≠ v2.ownBlock := by
  cases hv : v1.ownBlock with
  | none => exact .inl rfl
  | some g =>
    right
    intro e
    obtain ⟨c1, hc1⟩ := ownsRow_block h1 hv
    obtain ⟨c2, hc2⟩ := ownsRow_block h2 e.symm
    exact hne (hc1.type hc2).2
theorem grownBy_set (w : World) (b i : Nat) (u : Value) : w.grownBy (w.setCell ⟨b, i, none⟩ u) (some b) :=
  ⟨rfl, rfl, rfl, by simp, fun k _ hne => Below.heap_setCell w ⟨b, i, none⟩ u k (fun e => hne (by rw [e]))⟩
theorem own_set {w : World} {base e size n : Nat} {v : Value} {xs : List Value} (h : w.ownsRow base e size v n xs) {b : Nat} (hb : b < base) (i : Nat) (u : Value) : (w.setCell ⟨b, i, none⟩ u).ownsRow base e size v n xs :=
  h.kept (grownBy_set w b i u) (by
    right
    intro e
    have := (h.lt b e).1
    omega)
theorem own_more {w : World} {b1 b2 e size n : Nat} {v : Value} {xs : List Value} (h : w.ownsRow b2 e size v n xs) (hb : b1 ≤ b2) : w.ownsRow b1 e size v n xs := by
  rcases h.2 with h' | ⟨g, cap, cur, e1, hg, hr⟩
  · exact ⟨h.1, .inl h'⟩
  · exact ⟨h.1, .inr ⟨g, cap, cur, e1, by omega, hr⟩⟩

theorem OwnRows.set {w : World} {base : Nat} {ov : Value} {rs : List RowZ} {xs : List Value} (h : OwnRows w base ov rs xs) {b : Nat} (hb : b < base) (i : Nat) (u : Value) : OwnRows (w.setCell ⟨b, i, none⟩ u) base ov rs xs :=
  ⟨own_set h.own hb i u, fun j hj => by
    obtain ⟨av, h1, h2, h3, h4⟩ := h.rows j hj
    exact ⟨av, h1, h2, own_set h3 hb i u, h4⟩⟩
theorem OwnRows.below {w w' : World} {base : Nat} {ov : Value} {rs : List RowZ} {xs : List Value} (h : OwnRows w base ov rs xs) (hb : Below w.heap.size w w') : OwnRows w' base ov rs xs :=
  ⟨ownsRow_below h.own hb (Nat.le_refl _), fun j hj => by
    obtain ⟨av, h1, h2, h3, h4⟩ := h.rows j hj
    exact ⟨av, h1, h2, ownsRow_below h3 hb (Nat.le_refl _), h4⟩⟩
theorem Blk.grown {w w' : World} {g : Nat} {cs : Array Value} {t : TypeId} {row : Option Nat} (h : Blk w g cs t) (hb : w.grownBy w' row) (hg : some g ≠ row) : Blk w' g cs t := (hb.block g h.lt hg).trans h
theorem OwnRows.nil (w : World) (base : Nat) : OwnRows w base (.slice none 0 0) [] [] := ⟨World.ownsRow_nil _ _ _ _, fun i h => by simp at h⟩
/-- Behind an append of one row. -/
theorem OwnRows.push {w w1 : World} {base : Nat} {ov v' av : Value} {rs : List RowZ} {xs : List Value} {r : RowZ} (h : OwnRows w base ov rs xs) (ha : w.ownsRow base 3 1 av r.a.length (r.a.map (Value.int .i64)))
    (hown : w1.ownsRow base 31 3 v' (rs.length + 1) (xs ++ [.bool r.eq, av, .int .i64 r.b])) (hg : w.grownBy w1 ov.ownBlock) : OwnRows w1 base v' (rs ++ [r]) (xs ++ [.bool r.eq, av, .int .i64 r.b]) := by
  have hl : xs.length = rs.length * 3 := h.own.1
  refine ⟨by simpa using hown, fun i hi => ?_⟩
  by_cases hlt : i < rs.length
  · obtain ⟨u, h1, h2, h3, h4⟩ := h.rows i hlt
    rw [List.getElem_append_left hlt]
    exact ⟨u, by rw [List.getElem?_append_left (by omega)]; exact h1, by rw [List.getElem?_append_left (by omega)]; exact h2, h3.kept hg (own_types_ne h3 h.own (by decide)), by rw [List.getElem?_append_left (by omega)]; exact h4⟩
  · have : i = rs.length := by simp at hi; omega
    subst this
    rw [List.getElem_append_right (Nat.le_refl _)]
    simp only [Nat.sub_self, List.getElem_cons_zero]
    refine ⟨av, ?_, ?_, ha.kept hg (own_types_ne ha h.own (by decide)), ?_⟩
    · rw [List.getElem?_append_right (by omega), hl, Nat.sub_self]; rfl
    · rw [List.getElem?_append_right (by omega), hl, show rs.length * 3 + 1 - rs.length * 3 = 1 by omega]; rfl
    · rw [List.getElem?_append_right (by omega), hl, show rs.length * 3 + 2 - rs.length * 3 = 2 by omega]; rfl
theorem OwnRows.rowsAt {w : World} {base : Nat} {ov : Value} {rs : List RowZ} {xs : List Value} (h : OwnRows w base ov rs xs) : RowsAt w ov rs := by
  rcases h.own.2 with ⟨rfl, hn⟩ | ⟨g, cap, cur, rfl, hB, hb, h1, h2, h3, h4⟩
  · refine ⟨none, 0, by rw [hn], fun hne => ?_⟩
    exact absurd (List.eq_nil_of_length_eq_zero hn) hne
  · have hc := h.own.cells (g := g) rfl
    have hadd : ∀ j, (⟨g, 0, none⟩ : Addr).add j = ⟨g, 0 + j, none⟩ := fun j => by
      unfold Addr.add
      split
      · next e => subst e; rfl
      · simp
    refine ⟨_, cap, rfl, fun _ => ⟨g, 0, rfl, (show Blk w g cur _ from hb).lt, fun i hi => ?_⟩⟩
    obtain ⟨av, e1, e2, e3, e4⟩ := h.rows i hi
    refine ⟨av, ?_, ?_, ownsRow_sliceI e3, ?_⟩
    · have := hc _ _ e1; rwa [hadd] at this
    · have := hc _ _ e2; rwa [hadd] at this
    · have := hc _ _ e4; rwa [hadd] at this

/-- What a copy of a row's numbers leaves. -/
def CopyI (wr : World) (zs : List Int) (v : Value) (wx : World) : Prop := wx.ownsRow wr.heap.size 3 1 v zs.length (zs.map (Value.int .i64)) ∧ Below wr.heap.size wr wx

theorem infoR : (Tryz.prog.info? 31).map (fun i => (i.zero, i.size, i.bytes)) = some (some (.agg #[.bool false, .slice none 0 0, .int .i64 0]), 3, 40) := by kernel_rfl

set_option maxRecDepth 100000 in
set_option maxHeartbeats 2000000 in
theorem ownPoly_any (v : Value) (dim : Int) (rs : List RowZ) (w : World) (hv : RowsAt w v rs) (hl : rs.length ≤ 1000) (hM : ∀ r ∈ rs, r.a.length ≤ 1000000) :
    Calls Tryz.prog 19 #[.agg #[.int .i64 dim, v]] w fun e w' => ∃ ov, e = .returned (.agg #[.int .i64 dim, ov]) ∧ RowsAt w' ov rs ∧ Below w.heap.size w w' := by
  have HV := Lib.hid hv
  have HM := Lib.hid hM
  obtain ⟨i0, hi, hzz⟩ := Option.map_eq_some_iff.1 info3
  simp only [Prod.mk.injEq] at hzz
  obtain ⟨hz0, hz1, hz2⟩ := hzz
  have HI := Lib.hid hi
  have HZ0 := Lib.hid hz0
  have HZ1 := Lib.hid hz1
  have HZ2 := Lib.hid hz2
  obtain ⟨i1, hi', hzz'⟩ := Option.map_eq_some_iff.1 infoR
  simp only [Prod.mk.injEq] at hzz'
  obtain ⟨hz0', hz1', hz2'⟩ := hzz'
  have HI1 := Lib.hid hi'
  have HY0 := Lib.hid hz0'
  have HY1 := Lib.hid hz1'
  have HY2 := Lib.hid hz2'
  clear hi hz0 hz1 hz2 hi' hz0' hz1' hz2'
  obtain ⟨o, cap, rfl, hc⟩ := hv
  clear hc hM
  obtain ⟨n, hn⟩ : ∃ n, rs.length = n := ⟨_, rfl⟩
  rw [hn] at HV hl ⊢
  have HN := Lib.hid hn
  clear hn
  go_enter Tryz.func19, Tryz.ntmps19
  go_wp2_with fail
  go_loopw [4] (fun i wr => ∃ (k : Nat) (ov : Value) (xs : List Value), k ≤ n ∧ i = .int .i64 k ∧ OwnRows wr (w.heap.size + 1 + 1 + 1) ov (rs.take k) xs ∧ Blk wr w.heap.size #[.int .i64 dim, .slice o n cap] 29 ∧ Blk wr (w.heap.size + 1) #[.int .i64 0, .slice none 0 0] 29 ∧ Blk wr (w.heap.size + 1 + 1) #[.int .i64 dim, ov] 29 ∧ Below w.heap.size w wr) (fun i _ => n - (intOf i).toNat)
  case atStart => exact ⟨0, .slice none 0 0, [], Nat.zero_le _, rfl, OwnRows.nil _ _, ((Blk.new w _ _).alloc _).alloc _, by simpa using (Blk.new (w.alloc (.cells #[.int .i64 dim, .slice o n cap] 29)) _ _).alloc _, by simpa using Blk.new ((w.alloc (.cells #[.int .i64 dim, .slice o n cap] 29)).alloc (.cells #[.int .i64 0, .slice none 0 0] 29)) _ _, (((Below.refl _ _).alloc (Nat.le_refl _) _).alloc (by simp) _).alloc (by simp; omega) _⟩
  case round =>
    obtain ⟨k, ov, xs, hk, rfl, hown, hp, hp1, hp2, hbw⟩ := hrel
    by_cases hlt : k < n
    · have hk' : k < rs.length := by have := HN.out; omega
      obtain ⟨b, off, cap', oa, ca, e1, hbl, h1, h2, h3, h4⟩ := (HV.out.below hbw (Nat.le_refl _)).get hk'
      simp only [Value.slice.injEq] at e1
      obtain ⟨rfl, hnn, rfl⟩ := e1
      clear hnn
      have hla := HM.out _ (List.getElem_mem hk')
      have hblw : b < w.heap.size := by
        obtain ⟨b', off', _, _, _, e2, hb2, _⟩ := HV.out.get hk'
        simp only [Value.slice.injEq, Option.some.injEq, Addr.mk.injEq, and_true] at e2
        obtain ⟨⟨rfl, _⟩, _, _⟩ := e2
        exact hb2
      have HT := Lib.hid (List.take_succ_eq_append_getElem hk')
      have HLT := Lib.hid (show (rs.take k).length = k by rw [List.length_take]; omega)
      obtain ⟨r, hr⟩ : ∃ r, rs[k]'hk' = r := ⟨_, rfl⟩
      rw [hr] at h1 h2 h3 h4 hla HT
      clear hr
      obtain ⟨c0, c1, _, _⟩ := hp.two
      obtain ⟨d0, d1, f0, f1⟩ := hp2.two
      have HOWN := Lib.hid hown
      have HP := Lib.hid hp
      have HP1 := Lib.hid hp1
      have HP2 := Lib.hid hp2
      have HBW := Lib.hid hbw
      have HS := Lib.hid h3
      clear hown hp hp1 hp2 hbw h3
      go_upto_region 6 with fail
      go_cut [5] (fun u wx => CopyI wr r.a u wx)
      case first =>
        obtain ⟨la, hlen⟩ : ∃ la, r.a.length = la := ⟨_, rfl⟩
        by_cases hne : r.a = []
        · have hz : la = 0 := by rw [← hlen, hne]; rfl
          subst hz
          have HE : Hid (CopyI wr r.a (.slice none 0 0) wr) := ⟨by rw [hne]; exact World.ownsRow_nil _ _ _ _, Below.refl _ _⟩
          rw [hlen] at h2
          clear hne hlen hla
          rcases oa with _ | oa
          all_goals
            go_wp2_with fail
            go_meet
            exact HE.out
        · obtain ⟨oz, cz, e3, hcz⟩ := HS.out
          obtain ⟨ba, oo, hoe, hbal, hcs⟩ := hcz hne
          simp only [Value.slice.injEq] at e3
          obtain ⟨rfl, _, rfl⟩ := e3
          subst hoe
          have HCS := Lib.hid hcs
          have HLEN := Lib.hid hlen
          rw [hlen] at h2 hla
          clear hcs hcz hne hlen
          go_wp2_with (at_builtin; refine wpList_append_own _ rfl (.tmp 16) (.tmp 22) 22 rfl wr.heap.size 3 i0 (.int .i64 0) 1 8 Tryz.underlying22 HI.out HZ0.out HZ1.out HZ2.out rfl (by decide) (.slice none 0 0) 0 [] rfl (World.ownsRow_nil _ _ _ _) ⟨ba, oo, none⟩ la ca (r.a.map (Value.int .i64)) rfl ?c0 ?c1 ?c2 ?c3 ?c4 ?c5 ?_)
          case c0 => have := HLEN.out; simp [this]
          case c1 =>
            intro j u hj
            rw [List.getElem?_map, Option.map_eq_some_iff] at hj
            obtain ⟨z, hz, rfl⟩ := hj
            obtain ⟨h, rfl⟩ := List.getElem?_eq_some_iff.1 hz
            have e : (⟨ba, oo, none⟩ : Addr).add j = ⟨ba, oo + j, none⟩ := by
              simp only [Addr.add]
              split
              · next h => subst h; rfl
              · rfl
            rw [e]
            exact HCS.out j h
          case c2 => intro u hu; obtain ⟨z, _, rfl⟩ := List.mem_map.1 hu; rfl
          case c3 => unfold maxLen; omega
          case c4 => omega
          case c5 => exact Nat.le_refl _
          · intro v' w2 hown' hgrow _
            have hb : Below wr.heap.size wr w2 := (Below.refl _ _).grown hgrow (Nat.le_refl _) (fun k hk => by simp [Value.ownBlock] at hk)
            have HE : Hid (CopyI wr r.a v' w2) := ⟨by rw [HLEN.out]; exact hown', hb⟩
            clear hown' hgrow hb
            go_wp2_with fail
            go_meet
            exact HE.out
      case rest =>
        obtain ⟨hav, hbc⟩ := hcut
        obtain ⟨ou, cu, rfl⟩ : ∃ o c, u5 = .slice o r.a.length c := by
          rcases hav.2 with ⟨rfl, e⟩ | ⟨g, c, _, e, _⟩
          · exact ⟨none, 0, by rw [e]⟩
          · exact ⟨_, c, e⟩
        have hws : w.heap.size + 1 + 1 < wr.heap.size := HP2.out.lt
        have hs := hbc.size
        have hown := HOWN.out.below hbc
        have hownk := hown.own
        rw [HLT.out] at hownk
        have hp2 := HP2.out.below hbc hws
        have e1 : wc.cell? ⟨w.heap.size, 1, none⟩ = some (.slice (some ⟨b, off, none⟩) n cap) := (hbc.cell (p := ⟨w.heap.size, 1, none⟩) (by simp; omega)).trans c1
        have e2 : wc.cell? ⟨b, off + k * 3, none⟩ = some (.bool r.eq) := (hbc.cell (p := ⟨b, off + k * 3, none⟩) hbl).trans h1
        have e3 : wc.cell? ⟨b, off + k * 3 + 2, none⟩ = some (.int .i64 r.b) := (hbc.cell (p := ⟨b, off + k * 3 + 2, none⟩) hbl).trans h4
        obtain ⟨_, e4, _, e5⟩ := hp2.two
        have hB2 : w.heap.size + 1 + 1 < wc.heap.size := by omega
        have hB0 : w.heap.size < wc.heap.size := by omega
        have hb0 : b < wc.heap.size := by omega
        have HFAR : ∀ w1, World.grownBy (wc.alloc (.cells #[.bool r.eq, .slice ou r.a.length cu, .int .i64 r.b] 31)).drew w1 ov.ownBlock → Hid ((w1.cell? ⟨w.heap.size, 1, none⟩ = some (.slice (some ⟨b, off, none⟩) n cap) ∧ w1.cell? ⟨b, off + k * 3, none⟩ = some (.bool r.eq) ∧ w1.cell? ⟨b, off + k * 3 + 2, none⟩ = some (.int .i64 r.b)) ∧ w1.cell? ⟨w.heap.size + 1 + 1, 1, none⟩ = some ov ∧ w1.frozen? ⟨w.heap.size + 1 + 1, 1, none⟩ = false ∧ ∀ u, ((w1.setCell ⟨w.heap.size + 1 + 1, 1, none⟩ u).cell? ⟨w.heap.size, 1, none⟩ = some (.slice (some ⟨b, off, none⟩) n cap) ∧ (w1.setCell ⟨w.heap.size + 1 + 1, 1, none⟩ u).cell? ⟨b, off + k * 3, none⟩ = some (.bool r.eq) ∧ (w1.setCell ⟨w.heap.size + 1 + 1, 1, none⟩ u).cell? ⟨b, off + k * 3 + 2, none⟩ = some (.int .i64 r.b))) := fun w1 hg => by
          have hfar : ∀ (p : Addr) (u : Value), p.block < w.heap.size + 1 + 1 + 1 → wc.cell? p = some u → w1.cell? p = some u := fun p u hlt hc => by
            refine (hg.cell_far p (by show p.block < (wc.alloc _).heap.size; simp; omega) ?_).trans ((World.cell?_alloc_lt wc _ p (by omega)).trans hc)
            intro e
            have := (hownk.lt _ e.symm).1
            omega
          have k1 := hfar ⟨w.heap.size, 1, none⟩ _ (by simp; omega) e1
          have k2 := hfar ⟨b, off + k * 3, none⟩ _ (by simp; omega) e2
          have k3 := hfar ⟨b, off + k * 3 + 2, none⟩ _ (by simp; omega) e3
          have hno : ∀ (p : Addr) (u v : Value), p.block < w.heap.size + 1 → w1.cell? p = some v → (w1.setCell ⟨w.heap.size + 1 + 1, 1, none⟩ u).cell? p = some v := fun p u v hp hc =>
            (World.cell?_setCell_other _ _ _ _ (fun e => by rw [← e] at hp; simp at hp; omega)).trans hc
          refine ⟨⟨k1, k2, k3⟩, hfar _ _ (by simp) e4, ?_, fun u => ⟨hno _ u _ (by simp) k1, hno _ u _ (by simp; omega) k2, hno _ u _ (by simp; omega) k3⟩⟩
          refine (hg.frozen_far ⟨w.heap.size + 1 + 1, 1, none⟩ (by show _ < (wc.alloc _).heap.size; simp; omega) ?_).trans ?_
          · intro e
            have := (hownk.lt _ e.symm).1
            simp at this
            omega
          · exact (World.frozen?_alloc_old wc _ ⟨w.heap.size + 1 + 1, 1, none⟩ (by simp; omega)).trans e5
        have HH := Lib.hid HFAR
        have HAV := Lib.hid hav
        have HOW := Lib.hid hown
        have HOK := Lib.hid hownk
        have HBC := Lib.hid hbc
        clear hav hown hownk hbc hp2 HFAR hs h1 h4 c0 c1 d0 d1 f0 f1 h2
        go_upto_region 7 with fail
        go_region_law ((refine step_append_lies _ (by rfl) (.tmp 25) (.tmp 40) 27 (by rfl) (w.heap.size + 1 + 1 + 1) 31 i1 (.agg #[.bool false, .slice none 0 0, .int .i64 0]) 3 40 Tryz.underlying27 HI1.out HY0.out HY1.out HY2.out rfl (by decide) ov k xs (by rfl) ((HOK.out.alloc _).drew) ⟨wc.heap.size, 0, none⟩ 1 1 [.bool r.eq, .slice ou r.a.length cu, .int .i64 r.b] (by rfl) (by rfl) (World.news_of_block (cs := #[.bool r.eq, .slice ou r.a.length cu, .int .i64 r.b]) (t := 31) (fr := (0, 0)) (heap_new wc _)) (by intro u hu; simp at hu; rcases hu with rfl | rfl | rfl <;> rfl) (by omega) (by unfold maxLen; omega) (by omega) (by simp; omega) (wc.heap.size + 1) (by simp) ?_; intro gg cap1 w1 hown1 hgrow hat hlt1; obtain ⟨r1, r2, r3, r4⟩ := (HH.out w1 hgrow).out))
        all_goals
          have hb1 : Below wc.heap.size wc (wc.alloc (.cells #[.bool r.eq, .slice ou r.a.length cu, .int .i64 r.b] 31)).drew := ((Below.refl _ _).alloc (Nat.le_refl _) _).drew
          have hne : ∀ g, g < w.heap.size + 1 + 1 + 1 → some g ≠ ov.ownBlock := fun g hg e => by
            have := (HOK.out.lt _ e.symm).1
            omega
          have hO := (HOW.out.below hb1).push (r := r) (own_more (ownsRow_below HAV.out hb1 (Nat.le_refl _)) (by omega)) (by rw [HLT.out]; exact hown1) hgrow
          rw [← HT.out] at hO
          have hO2 := hO.set (b := w.heap.size + 1 + 1) (by omega) 1 (.slice (some ⟨gg, 0, none⟩) (k + 1) cap1)
          have hq0 := (((HP.out.below HBC.out (by omega)).below hb1 hB0).grown hgrow (hne _ (by omega))).set_other (p := ⟨w.heap.size + 1 + 1, 1, none⟩) (by simp; omega) (.slice (some ⟨gg, 0, none⟩) (k + 1) cap1)
          have hq1 := (((HP1.out.below HBC.out (by omega)).below hb1 (by omega)).grown hgrow (hne _ (by omega))).set_other (p := ⟨w.heap.size + 1 + 1, 1, none⟩) (by simp) (.slice (some ⟨gg, 0, none⟩) (k + 1) cap1)
          have hq2 := (((HP2.out.below HBC.out (by omega)).below hb1 hB2).grown hgrow (hne _ (by omega))).set 1 (.slice (some ⟨gg, 0, none⟩) (k + 1) cap1)
          have hbw : Below w.heap.size w (w1.setCell ⟨w.heap.size + 1 + 1, 1, none⟩ (.slice (some ⟨gg, 0, none⟩) (k + 1) cap1)) := Below.setCell (p := ⟨w.heap.size + 1 + 1, 1, none⟩) (((HBW.out.trans (HBC.out.mono HBW.out.size)).trans (hb1.mono (by omega))).grown hgrow (by show _ ≤ (wc.alloc _).heap.size; simp; omega) (fun g hg => by have := (HOK.out.lt _ hg).1; omega)) (by simp; omega) _
          clear hO hown1 hgrow hat hlt1 r1 r2 r3 r4 e1 e2 e3 e4 e5 hb1 hne
          go_wp2_with fail
          go_roundw
          case rel => exact ⟨k + 1, _, _, by omega, by go_num, hO2, hq0, hq1, hq2, hbw⟩
          case measure => simp [intOf]; omega
    · obtain rfl : k = n := by omega
      have HR := Lib.hid hown.rowsAt
      rw [List.take_of_length_le (by have := HN.out; omega)] at HR
      obtain ⟨c0, c1, _, _⟩ := hp.two
      obtain ⟨d0, d1, _, _⟩ := hp2.two
      obtain ⟨x0, x1, y0, y1⟩ := hp1.two
      have HBW := Lib.hid hbw
      obtain ⟨oo, oc, rfl, _⟩ := hown.rowsAt
      have hr1 : (rs.take k).length = k := by rw [List.length_take]; have := HN.out; omega
      have hr2 : rs.take k = rs := List.take_of_length_le (by have := HN.out; omega)
      rw [hr1] at d1 hown hp2
      rw [hr2] at hown
      have hset := hp1.set 0 (.int .i64 dim)
      obtain ⟨_, q1, _, q2⟩ := (show Blk (wr.setCell ⟨w.heap.size + 1, 0, none⟩ (.int .i64 dim)) (w.heap.size + 1) #[.int .i64 dim, .slice none 0 0] 29 from hset).two
      have hset2 := hset.set 1 (.slice oo k oc)
      obtain ⟨z0, z1, _, _⟩ := (show Blk ((wr.setCell ⟨w.heap.size + 1, 0, none⟩ (.int .i64 dim)).setCell ⟨w.heap.size + 1, 1, none⟩ (.slice oo k oc)) (w.heap.size + 1) #[.int .i64 dim, .slice oo k oc] 29 from hset2).two
      have HRW := Lib.hid ((hown.set (b := w.heap.size + 1) (by omega) 0 (.int .i64 dim)).set (b := w.heap.size + 1) (by omega) 1 (.slice oo k oc)).rowsAt
      have HBW2 := Lib.hid (Below.setCell (p := ⟨w.heap.size + 1, 1, none⟩) (Below.setCell (p := ⟨w.heap.size + 1, 0, none⟩) hbw (by simp) (.int .i64 dim)) (by simp) (.slice oo k oc))
      clear hset hset2 hown hp hp1 hp2 hbw hr1 hr2 HR
      go_wp2_with fail
      refine bodyPost_ret (v := .agg #[.int .i64 dim, .slice oo k oc]) ?_ rfl ⟨_, rfl, HRW.out, HBW2.out⟩
      simp [results, Tryz.results19, go_sem, z0, z1]
end Go.Proofs.YtochcofoknfjfaaGreatDoor
