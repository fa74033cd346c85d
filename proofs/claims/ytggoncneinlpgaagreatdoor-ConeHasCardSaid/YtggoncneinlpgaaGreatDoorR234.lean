/- Walk of the reference's NormalOf. Walks: ints, rows.Normal of a row that fits. Walks: halves, the law RowsNormal. -/
import Derived.Test.YtggoncneinlpgaaGreatDoorRP
import Derived.Test.YtggoncneinlpgaaGreatDoorX23
import Derived.Lib.SliceRun
namespace Go.Proofs.YtggoncneinlpgaaGreatDoor
open Go Go.RowKit Nt

theorem ownsRow_sliceI {w : World} {B0 : Nat} {v : Value} {n : Nat} {zs : List Int} (h : w.ownsRow B0 3 1 v n (zs.map (Value.int .i64))) : SliceI w v zs := by
  obtain ⟨hl, h⟩ := h
  have hl' : zs.length = n := by simpa using hl
  subst hl'
  rcases h with ⟨rfl, hn⟩ | ⟨g, cap, cur, rfl, hB, hb, h1, h2, h3, h4⟩
  · refine ⟨none, 0, by rw [hn], fun hne => ?_⟩
    exact absurd (List.eq_nil_of_length_eq_zero hn) hne
  · refine ⟨_, cap, rfl, fun _ => ⟨g, 0, rfl, (show Blk w g cur _ from hb).lt, fun i hi => ?_⟩⟩
    rw [Nat.zero_add, (show Blk w g cur _ from hb).cell]
    have : (zs.map (Value.int .i64))[i]? = cur[i]? := by
      rw [← h4, List.getElem?_take_of_lt (by omega)]
      simp
    rw [← this]
    simp [hi]

theorem gcdZ_zero {zs : List Int} (h : gcdZ zs = 0) : ∀ z ∈ zs, z = 0 := by
  suffices H : ∀ (zs : List Int) (g : Nat), zs.foldl (fun g z => Nat.gcd g z.natAbs) g = 0 → g = 0 ∧ ∀ z ∈ zs, z = 0 from (H zs 0 h).2
  intro zs
  induction zs with
  | nil => intro g hg; exact ⟨hg, by simp⟩
  | cons z zs ih =>
    intro g hg
    obtain ⟨h1, h2⟩ := ih _ hg
    have h3 := Nat.eq_zero_of_gcd_eq_zero_left h1
    have h4 := Nat.eq_zero_of_gcd_eq_zero_right h1
    refine ⟨h3, fun x hx => ?_⟩
    rcases List.mem_cons.1 hx with rfl | hx
    · omega
    · exact h2 x hx

def refD (g : Nat) (z : Int) : Int := if 0 < g then z.tdiv g else 0
def refN (zs : List Int) : List Int := zs.map (refD (gcdZ zs))
theorem refN_eq (zs : List Int) : refN zs = normZ zs := by
  unfold refN normZ
  split
  · rename_i h
    rw [h]
    conv => rhs; rw [← List.map_id zs]
    refine List.map_congr_left fun z hz => ?_
    rw [gcdZ_zero h z hz]
    rfl
  · refine List.map_congr_left fun z _ => ?_
    rw [refD, if_pos (by omega)]

/-- All are small. -/
def Mid (zs : List Int) : Prop := ∀ z ∈ zs, z.natAbs ≤ 4611686018427387904
theorem foldl_gcd_le {zs : List Int} (h : Fit zs) : ∀ g, g ≤ 4611686018427387904 → zs.foldl (fun g z => Nat.gcd g z.natAbs) g ≤ 4611686018427387904 := by
  induction zs with
  | nil => intro g hg; exact hg
  | cons z zs ih =>
    intro g hg
    refine ih (fun x hx => h x (List.mem_cons_of_mem _ hx)) _ ?_
    exact Nat.le_of_lt_succ (gcd_lt (M := 4611686018427387905) (Nat.lt_succ_of_le hg) (Nat.lt_succ_of_le (h z (List.mem_cons_self ..))))
theorem gcdZ_le {zs : List Int} (h : Fit zs) : gcdZ zs ≤ 4611686018427387904 := foldl_gcd_le h 0 (by omega)
theorem Fit.take {zs : List Int} (h : Fit zs) (k : Nat) : Fit (zs.take k) := fun z hz => h z (List.mem_of_mem_take hz)

end Go.Proofs.YtggoncneinlpgaaGreatDoor
namespace Go.Proofs.YtggoncneinlpgaaGreatDoor
open Go Go.RowKit Nt

set_option maxRecDepth 100000 in
set_option maxHeartbeats 1000000 in
theorem ints_any (v : Value) (zs : List Int) (w : World) (hv : SliceI w v zs) (hl : zs.length ≤ 1000000) :
    Calls Tryz.prog 10 #[v] w fun e w' => ∃ u, e = .returned u ∧ SliceI w' u zs ∧ Below w.heap.size w w' := by
  obtain ⟨o, cap, rfl, hc⟩ := hv
  obtain ⟨i0, hi, hzz⟩ := Option.map_eq_some_iff.1 info3
  simp only [Prod.mk.injEq] at hzz
  obtain ⟨hz0, hz1, hz2⟩ := hzz
  have HI := Lib.hid hi
  have HZ0 := Lib.hid hz0
  have HZ1 := Lib.hid hz1
  have HZ2 := Lib.hid hz2
  clear hi hz0 hz1 hz2
  by_cases hne : zs = []
  · subst hne
    clear hc
    rcases o with _ | o
    all_goals
      go_enter Tryz.func10, Tryz.ntmps10
      go_wp2_with fail
      go_ret
      exact ⟨_, rfl, ⟨none, 0, rfl, fun h => absurd rfl h⟩, Below.refl _ _⟩
  · obtain ⟨b, off, rfl, hbl, hcs⟩ := hc hne
    have HS := Lib.hid hcs
    obtain ⟨n, hn⟩ : ∃ n, zs.length = n := ⟨_, rfl⟩
    rw [hn] at hl ⊢
    have HN := Lib.hid hn
    clear hc hne hcs hn
    go_enter Tryz.func10, Tryz.ntmps10
    go_wp2_with (at_builtin; refine wpList_append_own _ rfl (.tmp 4) (.tmp 5) 23 rfl w.heap.size 3 i0 (.int .i64 0) 1 8 Tryz.underlying23 HI.out HZ0.out HZ1.out HZ2.out rfl (by decide) (.slice none 0 0) 0 [] rfl (World.ownsRow_nil _ _ _ _) ⟨b, off, none⟩ n cap (zs.map (Value.int .i64)) rfl ?c0 ?c1 ?c2 ?c3 ?c4 ?c5 ?_)
    case c0 => have := HN.out; simp [this]
    case c1 =>
      intro j u hj
      rw [List.getElem?_map, Option.map_eq_some_iff] at hj
      obtain ⟨z, hz, rfl⟩ := hj
      obtain ⟨h, rfl⟩ := List.getElem?_eq_some_iff.1 hz
      have e : (⟨b, off, none⟩ : Addr).add j = ⟨b, off + j, none⟩ := by
        simp only [Addr.add]
        split
        · next h => subst h; rfl
        · rfl
      rw [e]
      exact HS.out j h
    case c2 => intro u hu; obtain ⟨z, _, rfl⟩ := List.mem_map.1 hu; rfl
    case c3 => unfold maxLen; omega
    case c4 => omega
    case c5 => exact Nat.le_refl _
    · intro v' w2 hown' hgrow _
      have hb : Below w.heap.size w w2 := (Below.refl _ _).grown hgrow (Nat.le_refl _) (fun k hk => by simp [Value.ownBlock] at hk)
      have hs := ownsRow_sliceI hown'
      clear hown' hgrow
      go_wp2
      go_ret
      exact ⟨_, rfl, hs, hb⟩

end Go.Proofs.YtggoncneinlpgaaGreatDoor
namespace Go.Proofs.YtggoncneinlpgaaGreatDoor
open Go Go.RowKit Nt

end Go.Proofs.YtggoncneinlpgaaGreatDoor
