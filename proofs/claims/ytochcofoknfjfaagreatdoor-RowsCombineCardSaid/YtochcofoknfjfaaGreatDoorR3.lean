/- Walks: ints, rows.Normal of a row that fits. -/
import Derived.Test.YtochcofoknfjfaaGreatDoorR2
import Derived.Lib.SliceRun
namespace Go.Proofs.YtochcofoknfjfaaGreatDoor
open Go Go.RowKit Nt

set_option maxRecDepth 100000 in
set_option maxHeartbeats 1000000 in
theorem ints_any (v : Value) (zs : List Int) (w : World) (hv : SliceI w v zs) (hl : zs.length ≤ 1000000) :
    Calls Tryz.prog 12 #[v] w fun e w' => ∃ u, e = .returned u ∧ SliceI w' u zs ∧ Below w.heap.size w w' := by
  obtain ⟨o, cap, rfl, hc⟩ := hv
  obtain ⟨i0, hi, hzz⟩ := Option.map_eq_some_iff.1 info3
  simp only [Prod.mk.injEq] at hzz
  obtain ⟨hz0, hz1, hz2⟩ := hzz
  have HI := Lib.hid hi
  have HZ0 := Lib.hid hz0
  have HZ1 := Lib.hid hz1
  have HZ2 := Lib.hid hz2
  clear hi hz0 hz1 hz2
  by_cases hne : zs = []
  · subst hne
    clear hc
    rcases o with _ | o
    all_goals
      go_enter Tryz.func12, Tryz.ntmps12
      go_wp2_with fail
      go_ret
      exact ⟨_, rfl, ⟨none, 0, rfl, fun h => absurd rfl h⟩, Below.refl _ _⟩
  · obtain ⟨b, off, rfl, hbl, hcs⟩ := hc hne
    have HS := Lib.hid hcs
    obtain ⟨n, hn⟩ : ∃ n, zs.length = n := ⟨_, rfl⟩
    rw [hn] at hl ⊢
    have HN := Lib.hid hn
    clear hc hne hcs hn
    go_enter Tryz.func12, Tryz.ntmps12
    go_wp2_with (at_builtin; refine wpList_append_own _ rfl (.tmp 4) (.tmp 5) 22 rfl w.heap.size 3 i0 (.int .i64 0) 1 8 Tryz.underlying22 HI.out HZ0.out HZ1.out HZ2.out rfl (by decide) (.slice none 0 0) 0 [] rfl (World.ownsRow_nil _ _ _ _) ⟨b, off, none⟩ n cap (zs.map (Value.int .i64)) rfl ?c0 ?c1 ?c2 ?c3 ?c4 ?c5 ?_)
    case c0 => have := HN.out; simp [this]
    case c1 =>
      intro j u hj
      rw [List.getElem?_map, Option.map_eq_some_iff] at hj
      obtain ⟨z, hz, rfl⟩ := hj
      obtain ⟨h, rfl⟩ := List.getElem?_eq_some_iff.1 hz
      have e : (⟨b, off, none⟩ : Addr).add j = ⟨b, off + j, none⟩ := by
        simp only [Addr.add]
        split
        · next h => subst h; rfl
        · rfl
      rw [e]
      exact HS.out j h
    case c2 => intro u hu; obtain ⟨z, _, rfl⟩ := List.mem_map.1 hu; rfl
    case c3 => unfold maxLen; omega
    case c4 => omega
    case c5 => exact Nat.le_refl _
    · intro v' w2 hown' hgrow _
      have hb : Below w.heap.size w w2 := (Below.refl _ _).grown hgrow (Nat.le_refl _) (fun k hk => by simp [Value.ownBlock] at hk)
      have hs := ownsRow_sliceI hown'
      clear hown' hgrow
      go_wp2
      go_ret
      exact ⟨_, rfl, hs, hb⟩

set_option maxRecDepth 100000 in
set_option maxHeartbeats 1000000 in
theorem rowsNormal_any (v : Value) (zs : List Int) (w : World) (hv : SliceI w v zs) (hf : Fit zs) (hl : zs.length ≤ 1000000) :
    Calls Tryz.prog 11 #[v] w fun e w' => ∃ u, e = .returned u ∧ SliceI w' u (normZ zs) ∧ Below w.heap.size w w' := by
  have HV := Lib.hid hv
  obtain ⟨o, cap, rfl, hc⟩ := hv
  have h64 : I64 zs := fun z hz => by have := hf z hz; omega
  have h1 : One zs := fun z hz => by have := hf z hz; omega
  have HNF : Fit (normZ zs) := by
    rw [← refN_eq]
    intro z hz
    obtain ⟨x, hx, rfl⟩ := List.mem_map.1 hz
    unfold refD
    split
    · have := hf x hx
      rw [Int.natAbs_tdiv]
      exact Nat.le_trans (Nat.div_le_self _ _) this
    · simp
  have HNL : (normZ zs).length = zs.length := by rw [← refN_eq, refN, List.length_map]
  obtain ⟨n, hn⟩ : ∃ n, zs.length = n := ⟨_, rfl⟩
  rw [hn] at hl HNL ⊢
  have HN := Lib.hid hn
  clear hn hc
  have HCALL := Lib.hid (of_any _ zs w HV.out h64 (by have := HN.out; omega))
  rw [show (Value.slice o zs.length cap) = .slice o n cap by rw [HN.out]] at HCALL
  go_enter Tryz.func11, Tryz.ntmps11
  go_wp2_with fail
  refine HCALL.out.mono ?_
  rintro e w1 ⟨v1, rfl, hr1, hb1⟩
  go_wp2_with fail
  refine (normal_any v1 zs _ w1 hr1 hb1.size h1 (by have := HN.out; omega)).mono ?_
  rintro e w2 ⟨v2, rfl, hr2, hb2⟩
  have hb02 := hb1.trans (hb2.mono hb1.size)
  obtain ⟨ps2, hp2⟩ := hr2
  obtain ⟨o2, cap2, rfl, _, _⟩ := hp2.form
  rw [HNL] at hp2 ⊢
  have hr3 : ∀ x, RowAt (w2.alloc x) w.heap.size (.slice o2 n cap2) (normZ zs) := fun x => (show RowAt w2 w.heap.size _ _ from ⟨ps2, hp2⟩).below (B1 := w2.heap.size) ((Below.refl _ _).alloc (Nat.le_refl _) x) (Nat.le_refl _)
  clear hp2 hr1 hb1 hb2 HCALL
  go_wp2_with fail
  refine (told_one w2.heap.size 1 _ (normZ zs) w.heap.size _ (by simp) (by simp) (hr3 _) HNF (by omega)).mono ?_
  rintro e w3 ⟨ot, ct, bl, cl, csl, rfl, hcell, hblk, hsz, hcs, hol, hbl, hot, hb3⟩
  rw [HNL] at hcell hsz
  have hb03 : Below w.heap.size w w3 := (hb02.alloc hb02.size _).trans (hb3.mono (by have := hb02.size; simp; omega))
  have HNL' := Lib.hid HNL
  have HNN : normZ zs = [] → Hid (n = 0) := fun h => by rw [h] at HNL; exact HNL.symm
  have hS : SliceI w3 (.slice (some ⟨bl, 0, none⟩) n cl) (normZ zs) := ⟨_, cl, by rw [HNL], fun _ => ⟨bl, 0, rfl, hblk.lt, fun i hi => by rw [Nat.zero_add, hblk.cell]; exact hcs i hi⟩⟩
  clear hb3 hb02 hr3 hcs HNL hsz
  by_cases hn0 : n = 0
  · subst hn0
    have HNZ := Lib.hid (show normZ zs = [] from List.eq_nil_of_length_eq_zero HNL'.out)
    go_wp2_with fail
    go_ret
    refine ⟨_, rfl, ?_, hb03⟩
    rw [HNZ.out]
    exact ⟨none, 0, rfl, fun h => absurd rfl h⟩
  · have hnb : ((n : Int) == 0) = false := by simp; omega
    have q44 : ∀ (w : World) (a : Option Addr) (n c n' c' : Nat), (binOp .eql 44 (.slice a n c) (.slice none n' c')).run Tryz.prog w = .ok (.bool a.isNone) w := fun w a n c n' c' => Lib.run_eql_slice_nil w _ _ a n c n' c' Tryz.underlying44
    go_wp2_with fail
    go_ret
    exact ⟨_, rfl, hS, hb03⟩
end Go.Proofs.YtochcofoknfjfaaGreatDoor
