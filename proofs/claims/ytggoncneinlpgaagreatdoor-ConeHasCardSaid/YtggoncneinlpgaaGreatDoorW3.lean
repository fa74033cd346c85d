/- Walks: nat.cmp, Int.Set, Int.Abs, Int.CmpAbs, Int.Int64. -/
import Derived.Test.YtggoncneinlpgaaGreatDoorW2
import Derived.Deep.RegionWith
import Derived.Deep.RegionHeld3
import Derived.Deep.RegionLaw
import Derived.BigRegion
import Derived.StillTailTactics
import Derived.Lib.Builder
namespace Go.Proofs.YtggoncneinlpgaaGreatDoor
open Go Go.RowKit Nt

theorem Wd.notIn {w : World} {v : Value} {ds T : List Nat} (h : Wd w v ds T) {b : Nat} {cs : Array Value} (hb : Blk w b cs 62) : b ∉ T := by
  rcases h with ⟨_, rfl, _⟩ | ⟨a, cap, cs, _, rfl, _, _, _, hb', _⟩
  · simp
  · simpa using hb.ne hb' (by decide)
/-- A number's struct behind the stores of its two fields. -/
theorem intF_stored {w : World} {b : Nat} {x y v : Value} {z : Int} {neg : Bool} {T : List Nat} (h : Blk w b #[x, y] 62) (hv : Wd w v (dg z.natAbs) T) (hn : neg = decide (z < 0)) :
    IntF ((w.setCell ⟨b, 1, none⟩ v).setCell ⟨b, 0, none⟩ (.bool neg)) b z (b :: T) := by
  have hb := (h.set 1 v).set 0 (.bool neg)
  subst hn
  refine ⟨v, T, by simpa using hb, hv.to fun k hk => ?_, rfl⟩
  have hne : k ≠ b := fun e => hv.notIn h (e ▸ hk)
  rw [Below.heap_setCell _ _ _ _ hne, Below.heap_setCell _ _ _ _ hne]

theorem infoI : (Tryz.prog.info? 62).map (·.size) = some 2 := by kernel_rfl
theorem ptr_neq (b b' : Nat) (cs cs' : Array Value) (w : World) (hne : b ≠ b') (h : Blk w b cs 62) (h' : Blk w b' cs' 62) :
    (binOp .neq 49 (.pointer (some ⟨b, 0, none⟩)) (.pointer (some ⟨b', 0, none⟩))).run Tryz.prog w = .ok (.bool true) w := by
  obtain ⟨j, hj, hs⟩ := Option.map_eq_some_iff.1 infoI
  have h : ∀ d : Nat, (Op.equalIn (d + 1) 49 (.pointer (some ⟨b, 0, none⟩)) (.pointer (some ⟨b', 0, none⟩))).run Tryz.prog w = .ok false w := fun d => by
    simp [Op.equalIn, run_underlying Tryz.underlying49, sizeOf, typeInfo, hj, hs, run_sameAddr_other w (a := ⟨b, 0, none⟩) (b := ⟨b', 0, none⟩) (by simp) h h']
  simp only [binOp]
  simp [Op.equal, Op.maxDepth, h 9999]

set_option maxRecDepth 100000 in
set_option maxHeartbeats 400000 in
/-- (*Int).Set of another number. -/
theorem set_other (bz bx : Nat) (z x : Int) (S T : List Nat) (w : World) (hz : IntF w bz z S) (hx : IntF w bx x T) (hne : bz ≠ bx) (hl : (dg x.natAbs).length ≤ 1000000) :
    Calls Tryz.prog 111 #[.pointer (some ⟨bz, 0, none⟩), .pointer (some ⟨bx, 0, none⟩)] w (IntRes w bz S x) := by
  obtain ⟨oz, cz, Tz, hz0, hz1, hzw, rfl, hzb⟩ := hz.cells
  obtain ⟨ox, cx, Tx, hx0, hx1, hxw, rfl, hxb⟩ := hx.cells
  have hsto := hzw.sto
  have hnz := hzw.notIn hzb
  have hnx := hzw.notIn hxb
  have hp := ptr_neq bz bx _ _ w hne hzb hxb
  go_enter Tryz.func111, Tryz.ntmps111
  go_wp2_with fail
  go_region_with (first | (go_at_call 61; refine (nset_any _ _ _ _ _ w.drew (by exact hsto) (by exact hxw) hl).mono ?_; rintro e w1 ⟨v', S', rfl, hw1, hS1, hc1⟩; have q1 := Blk.chg (w := w.drew) hzb hc1 hnz; obtain ⟨q2, q3, q4, q5⟩ := q1.two; obtain ⟨o1, cap1, rfl, hl1, hl2⟩ := wd_form hw1))
  all_goals
    obtain ⟨r2, r3, _, _⟩ := (Blk.chg (w := w.drew) hxb hc1 hnx).two
    go_wp2
    go_ret
    refine ⟨_, rfl, intF_stored q1 hw1 rfl, ?_, ?_⟩
    · intro k hk
      rcases List.mem_cons.1 hk with rfl | hk
      · exact .inl (by simp)
      · rcases hS1 k hk with h | h
        · exact .inl (List.mem_cons_of_mem _ h)
        · exact .inr h
    · exact (((Chg.refl _ _).drew.trans (hc1.mono fun x hx => List.mem_cons_of_mem _ hx)).setCell (.inl (by simp)) _).setCell (.inl (by simp)) _

set_option maxRecDepth 100000 in
set_option maxHeartbeats 400000 in
/-- (*Int).Set of the number itself. -/
theorem set_same (bz : Nat) (z : Int) (S : List Nat) (w : World) (hz : IntF w bz z S) :
    Calls Tryz.prog 111 #[.pointer (some ⟨bz, 0, none⟩), .pointer (some ⟨bz, 0, none⟩)] w (IntRes w bz S z) := by
  obtain ⟨j, hj, _⟩ := Option.map_eq_some_iff.1 infoI
  have hp := Lib.run_neq_ptr_same (P := Tryz.prog) w (tp := 49) ⟨bz, 0, none⟩ Tryz.underlying49 hj
  clear hj
  go_enter Tryz.func111, Tryz.ntmps111
  go_wp2
  go_ret
  exact ⟨S, rfl, hz, fun k hk => .inl hk, Chg.refl _ _⟩

theorem set_any (bz bx : Nat) (z x : Int) (S T : List Nat) (w : World) (hz : IntF w bz z S) (hx : IntF w bx x T) (hl : (dg x.natAbs).length ≤ 1000000) :
    Calls Tryz.prog 111 #[.pointer (some ⟨bz, 0, none⟩), .pointer (some ⟨bx, 0, none⟩)] w (IntRes w bz S x) := by
  by_cases hne : bz = bx
  · subst hne
    have : z = x := by
      obtain ⟨v, T1, h1, h2, _⟩ := hz
      obtain ⟨v', T1', h1', h2', _⟩ := hx
      obtain ⟨e, _⟩ := h1.type h1'
      simp at e
      obtain ⟨e1, rfl⟩ := e
      have : dg z.natAbs = dg x.natAbs := by
        rcases h2 with ⟨hv, _, h2⟩ | ⟨a, cap, cs, hv, _, _, _, _, hb, hc⟩ <;> rcases h2' with ⟨hv', _, h2'⟩ | ⟨a', cap', cs', hv', _, _, _, _, hb', hc'⟩
        · rw [h2, h2']
        · rw [hv] at hv'; cases hv'
        · rw [hv] at hv'; cases hv'
        · rw [hv] at hv'
          simp at hv'
          obtain ⟨rfl, hln, rfl⟩ := hv'
          obtain ⟨rfl, _⟩ := hb.type hb'
          refine List.ext_getElem hln fun i hi hi' => ?_
          have h3 := hc i hi
          rw [hc' i hi'] at h3
          simp at h3
          omega
      have h3 := congrArg nv this
      rw [nv_dg, nv_dg] at h3
      by_cases hz0 : z < 0
      · have : x < 0 := by simpa [hz0] using e1
        omega
      · have : ¬ x < 0 := by simpa [hz0] using e1
        omega
    subst this
    exact set_same bz z S w hz
  · exact set_other bz bx z x S T w hz hx hne hl

/-- The sign is taken away. -/
theorem intF_pos {w : World} {b : Nat} {z : Int} {S : List Nat} (h : IntF w b z S) : IntF (w.setCell ⟨b, 0, none⟩ (.bool false)) b z.natAbs S := by
  obtain ⟨v, T, hb, hw, rfl⟩ := h
  refine ⟨v, T, ?_, ?_, rfl⟩
  · have := hb.set 0 (.bool false)
    have e : decide ((z.natAbs : Int) < 0) = false := by simp
    rw [e]
    simpa using this
  · rw [Int.natAbs_natCast]
    exact hw.to fun k hk => Below.heap_setCell _ _ _ _ (fun e => by have e' : k = b := e; subst e'; exact hw.notIn hb hk)

set_option maxRecDepth 100000 in
set_option maxHeartbeats 400000 in
theorem abs_any (bz bx : Nat) (z x : Int) (S T : List Nat) (w : World) (hz : IntF w bz z S) (hx : IntF w bx x T) (hl : (dg x.natAbs).length ≤ 1000000) :
    Calls Tryz.prog 121 #[.pointer (some ⟨bz, 0, none⟩), .pointer (some ⟨bx, 0, none⟩)] w (IntRes w bz S x.natAbs) := by
  go_enter Tryz.func121, Tryz.ntmps121
  go_wp2_with fail
  refine (set_any bz bx z x S T w hz hx hl).mono ?_
  rintro e w1 ⟨S', rfl, h1, hS, hc⟩
  obtain ⟨o, cap, T', q1, q2, q3, q4, q5⟩ := h1.cells
  have q6 := q5.free 0
  have hb : bz ∈ S := by obtain ⟨v, T, _, _, rfl⟩ := hz; simp
  go_wp2
  go_ret
  exact ⟨S', rfl, intF_pos h1, hS, hc.setCell (.inl hb) _⟩

end Go.Proofs.YtggoncneinlpgaaGreatDoor
