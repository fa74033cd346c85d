/- Walks: nat.norm, nat.set, nat.cmp, Int.Set, Int.Abs, Int.CmpAbs, Int.Int64. -/
import Derived.Test.YtggoncneinlpgaaGreatDoorW1
import Derived.Laws.CopyRow
import Derived.Laws.IdiomCopy
namespace Go.Proofs.YtggoncneinlpgaaGreatDoor
open Go Go.RowKit Nt

/-- The words of a row: of digits ds, the first of them in the cells from 0 on. -/
def Cells (cs : Array Value) (ds : List Nat) : Prop := ∀ i (h : i < ds.length), cs[i]? = some (.int .u64 (ds[i] : Nat))

theorem wd_take {w : World} {a cap k : Nat} {cs : Array Value} {ds : List Nat} (hb : Blk w a cs 80) (h1 : k ≤ ds.length) (h1' : k ≤ cap) (h2 : cap ≤ 4294967296) (h3 : cs.size = cap) (hc : Cells cs ds) (he : dg (nv ds) = ds.take k) :
    Wd w (.slice (some ⟨a, 0, none⟩) k cap) (dg (nv ds)) [a] := by
  have hl : (ds.take k).length = k := by rw [List.length_take]; omega
  refine .inr ⟨a, cap, cs, by rw [he, hl], rfl, by rw [he, hl]; exact h1', h2, h3, hb, ?_⟩
  rw [he]
  intro i hi
  rw [List.getElem_take]
  exact hc i (by omega)

set_option maxRecDepth 100000 in
set_option maxHeartbeats 400000 in
theorem norm_any (a cap : Nat) (cs : Array Value) (ds : List Nat) (w : World) (hb : Blk w a cs 80) (h1 : ds.length ≤ cap) (h2 : cap ≤ 4294967296) (h3 : cs.size = cap) (hc : Cells cs ds) (hd : Dig ds) :
    Calls Tryz.prog 65 #[.slice (some ⟨a, 0, none⟩) ds.length cap] w fun e w' => ∃ v, e = .returned v ∧ Wd w v (dg (nv ds)) [a] ∧ w = w' := by
  generalize hn : ds.length = n
  have HN := Lib.hid hn
  have hn1 : n ≤ cap := by omega
  clear hn
  go_enter Tryz.func65, Tryz.ntmps65
  go_wp2
  go_loop [3] (fun i => ∃ k : Nat, k ≤ n ∧ i = .int .i64 k ∧ Hid (∀ j, k ≤ j → (hj : j < ds.length) → ds[j] = 0)) (fun i => (intOf i).toNat)
  case atStart => exact ⟨n, Nat.le_refl _, rfl, fun j h h' => by have := HN.out; omega⟩
  case round =>
    obtain ⟨k, hk, rfl, hz⟩ := hrel
    by_cases hk0 : 0 < k
    · obtain ⟨k, rfl⟩ : ∃ m, k = m + 1 := ⟨k - 1, by omega⟩
      have hlt : k < ds.length := by have := HN.out; omega
      have hcell : w.cell? ⟨a, k, none⟩ = some (.int .u64 (ds[k] : Nat)) := (hb.cell k).trans (hc k hlt)
      obtain ⟨d, hdk⟩ : ∃ d, ds[k] = d := ⟨_, rfl⟩
      rw [hdk] at hcell
      have HD := Lib.hid hdk
      clear hdk
      have hkk : ((k : Int) + 1 - 1) = k := by omega
      go_wp2
      · have hd0 : ((d : Int) == 0) = true := by assumption
        refine ⟨⟨k, by omega, rfl, fun j h h' => ?_⟩, by simp [intOf]⟩
        by_cases e : j = k
        · subst e
          rw [HD.out]
          simpa using hd0
        · exact hz.out j (by omega) h'
      · have hd0 : ((d : Int) == 0) = false := by assumption
        go_ret
        refine ⟨_, rfl, wd_take hb (by omega) (by omega) h2 h3 hc (dg_take hd (by omega) hz.out fun _ => ?_), rfl⟩
        simp only [Nat.add_sub_cancel]
        rw [HD.out]
        simpa using hd0
    · obtain rfl : k = 0 := by omega
      go_wp2
      go_ret
      exact ⟨_, rfl, wd_take hb (by omega) (by omega) h2 h3 hc (dg_take hd (by omega) hz.out fun h => absurd h hk0), rfl⟩

theorem wd_form {w : World} {v : Value} {ds S : List Nat} (h : Wd w v ds S) :
    ∃ o cap, v = .slice o ds.length cap ∧ ds.length ≤ cap ∧ cap ≤ 4294967296 := by
  rcases h with ⟨rfl, rfl, rfl⟩ | ⟨a, cap, cs, rfl, rfl, h3, h4, h5, hb, hd⟩
  · exact ⟨none, 0, rfl, by simp, by omega⟩
  · exact ⟨_, cap, rfl, h3, h4⟩

theorem sizeW : (Tryz.prog.info? 80).map (·.size) = some 1 := by kernel_rfl
theorem copyW_none (d a : Option Addr) (dLen dCap sLen sCap : Nat) (w : World) (hn : Nat.min sLen dLen = 0) :
    (Builtin.copy_ #[60, 60] 3 #[.slice d dLen dCap, .slice a sLen sCap]).run Tryz.prog w = .ok (.int .i64 0) w :=
  run_copy_none (P := Tryz.prog) w _ _ _ 80 d a dLen dCap sLen sCap Tryz.underlying60 sizeW hn
/-- copy of n words from the head of one row to the head of another. -/
theorem copyW (a dCap ax sCap : Nat) (cur : Array Value) (ds : List Nat) (w : World) (hb : Blk w a cur 80) (hf : ds.length ≤ cur.size)
    (hx : ∀ i (h : i < ds.length), w.cell? ⟨ax, i, none⟩ = some (.int .u64 (ds[i] : Nat))) :
    ∃ w2 cs2, (Builtin.copy_ #[60, 60] 3 #[.slice (some ⟨a, 0, none⟩) ds.length dCap, .slice (some ⟨ax, 0, none⟩) ds.length sCap]).run Tryz.prog w = .ok (.int .i64 ds.length) w2 ∧
      Blk w2 a cs2 80 ∧ cs2.size = cur.size ∧ Cells cs2 ds ∧ Chg [a] w w2 := by
  have hr := run_copy_row (P := Tryz.prog) w 60 60 3 80 a 0 ds.length dCap ⟨ax, 0, none⟩ ds.length sCap cur 80 (ds.map fun d => Value.int .u64 (d : Nat)) Tryz.underlying60 sizeW hb
    (by simp) (fun j v hj => by
      rw [List.getElem?_map] at hj
      cases hq : ds[j]? with
      | none => rw [hq] at hj; cases hj
      | some d =>
        obtain ⟨hj', hd⟩ := List.getElem?_eq_some_iff.1 hq
        rw [hq] at hj
        simp only [Option.map_some, Option.some.injEq] at hj
        subst hj
        have := hx j hj'
        rw [hd] at this
        have e : (⟨ax, 0, none⟩ : Addr).add j = ⟨ax, j, none⟩ := by
          unfold Addr.add
          split
          · subst j; rfl
          · simp
        rw [e]; exact this) (by simpa using hf) (by intro v hv; simp at hv; obtain ⟨d, _, rfl⟩ := hv; rfl)
  refine ⟨_, _, by simpa [goInt] using hr, setRow_heap w a _ _ 80 _ hb, ?_, ?_, ?_⟩
  · simp; omega
  · intro i hi
    simp only [List.getElem?_toArray]
    rw [List.getElem?_append_left (by simpa using hi)]
    simp [hi]
  · refine ⟨rfl, rfl, rfl, by simp [World.setRow], fun k _ hk => setRow_other w a k _ (by simpa using hk)⟩

set_option maxRecDepth 100000 in
set_option maxHeartbeats 400000 in
/-- (nat).set: a copy. -/
theorem nset_any (v x : Value) (S T ds : List Nat) (w : World) (hs : Sto w v S) (hx : Wd w x ds T) (hl : ds.length ≤ 1000000) :
    Calls Tryz.prog 61 #[v, x] w fun e w' => ∃ v' S', e = .returned v' ∧ Wd w' v' ds S' ∧ (∀ k, k ∈ S' → k ∈ S ∨ w.heap.size ≤ k) ∧ Chg S w w' := by
  by_cases h0 : ds = []
  · subst h0
    obtain ⟨o, cap, rfl, h1, h2⟩ := wd_form hx
    obtain ⟨o', n', cap', rfl, hw⟩ := wd_nil hs
    have hb := sto_bounds hs
    have hcp := fun w => copyW_none o' o 0 cap' 0 cap w (by simp)
    go_enter Tryz.func61, Tryz.ntmps61
    go_wp2_with fail
    refine (make_fits o' n' cap' 0 w (by omega) hb.2).mono ?_
    rintro e w1 ⟨rfl, rfl⟩
    go_wp2
    go_ret
    rw [dg_zero] at hw
    exact ⟨_, S, rfl, hw, fun k hk => .inl hk, Chg.refl _ _⟩
  · rcases hx with ⟨_, _, h⟩ | ⟨ax, cap, csx, rfl, rfl, h3, h4, h5, hbx, hdx⟩
    · exact absurd h h0
    go_enter Tryz.func61, Tryz.ntmps61
    go_wp2_with fail
    refine (make_any v S ds.length w hs (by have := List.length_pos_iff.2 h0; omega) hl).mono ?_
    rintro e w1 ⟨a, cap1, cs, rfl, h1', h2', h3', hb, ha, hc, hq⟩
    obtain ⟨w2, cs2, hr, hb2, hs2, hc2, hg2⟩ := copyW a cap1 ax cap cs ds w1 hb (by omega) (fun i hi => ((hbx.chg hc (by simp)).cell i).trans (hdx i hi))
    have HC := Lib.hid hq
    clear hq
    go_wp2
    go_ret
    refine ⟨_, [a], rfl, .inr ⟨a, cap1, cs2, rfl, rfl, h1', h2', by omega, hb2, hc2⟩, ?_, ?_⟩
    · intro k hk
      simp at hk; subst hk; exact ha
    · exact (hc.mono (by simp)).trans' hg2 (by intro k hk; simp at hk; subst hk; exact ha)
end Go.Proofs.YtggoncneinlpgaaGreatDoor
