/- Walks: Int.Cmp; (exact.Row).Zero. -/
import Derived.Test.YtochcofoknfjfaaGreatDoorX23
import Derived.Test.YtochcofoknfjfaaGreatDoorW456
import Derived.Test.YtochcofoknfjfaaGreatDoorM3
namespace Go.Proofs.YtochcofoknfjfaaGreatDoor
open Go Go.RowKit Nt

def cmpInt (x y : Int) : Int := if x < y then -1 else if x = y then 0 else 1
theorem cmpInt_neg {x y : Int} (h1 : x < 0) (h2 : y < 0) : cmpInt x y = -cmpI x.natAbs y.natAbs := by
  unfold cmpInt cmpI
  by_cases h : x < y
  · rw [if_pos h, if_neg (by omega), if_neg (by omega)]
  · by_cases e : x = y
    · subst e; simp
    · rw [if_neg h, if_neg e, if_pos (by omega)]; rfl
theorem cmpInt_pos {x y : Int} (h1 : ¬ x < 0) (h2 : ¬ y < 0) : cmpInt x y = cmpI x.natAbs y.natAbs := by
  unfold cmpInt cmpI
  by_cases h : x < y
  · rw [if_pos h, if_pos (by omega)]
  · by_cases e : x = y
    · subst e; simp
    · rw [if_neg h, if_neg e, if_neg (by omega), if_neg (by omega)]

set_option maxRecDepth 100000 in
set_option maxHeartbeats 2000000 in
theorem icmp_any (bx bY : Nat) (x y : Int) (S T : List Nat) (w : World) (hx : IntF w bx x S) (hy : IntF w bY y T) (hxy : bx ≠ bY) :
    Calls Tryz.prog 51 #[.pointer (some ⟨bx, 0, none⟩), .pointer (some ⟨bY, 0, none⟩)] w fun e w' => e = .returned (.int .i64 (cmpInt x y)) ∧ ∃ m, w' = w.drewN m := by
  obtain ⟨ox, cx, Tx, hx0, hx1, hxw, rfl, hxb⟩ := hx.cells
  obtain ⟨oy, cy, Ty, hy0, hy1, hyw, rfl, hyb⟩ := hy.cells
  have hp := ptr_eql bx bY _ _ w hxy hxb hyb
  have HC := Lib.hid (fun m => ncmp_any _ _ x.natAbs y.natAbs _ _ (w.drewN m) (by exact hxw) (by exact hyw))
  clear hx hy hxw hyw hxb hyb hxy
  by_cases h1 : x < 0
  · rw [decide_eq_true h1] at hx0
    by_cases h2 : y < 0
    · rw [decide_eq_true h2] at hy0
      have HR := Lib.hid (cmpInt_neg h1 h2)
      have hb1 : -1 ≤ cmpI x.natAbs y.natAbs := by unfold cmpI; split <;> (try split) <;> omega
      have hb2 : cmpI x.natAbs y.natAbs ≤ 1 := by unfold cmpI; split <;> (try split) <;> omega
      generalize (dg x.natAbs).length = lx at *
      generalize (dg y.natAbs).length = ly at *
      obtain ⟨c, hc⟩ : ∃ c, cmpI x.natAbs y.natAbs = c := ⟨_, rfl⟩
      rw [hc] at HC HR hb1 hb2
      clear hc h1 h2
      go_enter Tryz.func51, Tryz.ntmps51
      go_wp2_with fail
      go_quiet (fail)
      obtain ⟨n1, rfl⟩ : ∃ n1 : Nat, n1 = nq := ⟨_, rfl⟩
      go_wp2_with fail
      go_quiet ((go_at_call 75; refine (HC.out _).mono ?_; rintro e w' ⟨rfl, m, rfl⟩; exact ⟨rfl, _, by rw [World.drewN_drewN, Nat.add_assoc]⟩))
      go_wp2_with fail
      go_ret
      exact ⟨by rw [HR.out]; rfl, _, rfl⟩
    · rw [decide_eq_false h2] at hy0
      have HR := Lib.hid (show cmpInt x y = -1 by unfold cmpInt; rw [if_pos (by omega)])
      clear h1 h2 HC
      go_enter Tryz.func51, Tryz.ntmps51
      go_wp2_with fail
      go_quiet (fail)
      go_wp2_with fail
      go_ret
      exact ⟨by rw [HR.out]; rfl, _, rfl⟩
  · rw [decide_eq_false h1] at hx0
    by_cases h2 : y < 0
    · rw [decide_eq_true h2] at hy0
      have HR := Lib.hid (show cmpInt x y = 1 by unfold cmpInt; rw [if_neg (by omega), if_neg (by omega)])
      clear h1 h2 HC
      go_enter Tryz.func51, Tryz.ntmps51
      go_wp2_with fail
      go_quiet (fail)
      go_wp2_with fail
      go_ret
      exact ⟨by rw [HR.out]; rfl, _, rfl⟩
    · rw [decide_eq_false h2] at hy0
      have HR := Lib.hid (cmpInt_pos h1 h2)
      have hb1 : -1 ≤ cmpI x.natAbs y.natAbs := by unfold cmpI; split <;> (try split) <;> omega
      have hb2 : cmpI x.natAbs y.natAbs ≤ 1 := by unfold cmpI; split <;> (try split) <;> omega
      generalize (dg x.natAbs).length = lx at *
      generalize (dg y.natAbs).length = ly at *
      obtain ⟨c, hc⟩ : ∃ c, cmpI x.natAbs y.natAbs = c := ⟨_, rfl⟩
      rw [hc] at HC HR hb1 hb2
      clear hc h1 h2
      go_enter Tryz.func51, Tryz.ntmps51
      go_wp2_with fail
      go_quiet (fail)
      obtain ⟨n1, rfl⟩ : ∃ n1 : Nat, n1 = nq := ⟨_, rfl⟩
      go_wp2_with fail
      go_quiet ((go_at_call 75; refine (HC.out _).mono ?_; rintro e w' ⟨rfl, m, rfl⟩; exact ⟨rfl, _, by rw [World.drewN_drewN, Nat.add_assoc]⟩))
      go_wp2_with fail
      go_ret
      exact ⟨by rw [HR.out]; rfl, _, rfl⟩

theorem zero1_any (b : Nat) (z : Int) (S : List Nat) (w : World) (h : IntF w b z S) : Calls Tryz.prog 79 #[.pointer (some ⟨b, 0, none⟩)] w fun e w' => e = .returned (.bool (z != 0)) ∧ w = w' := by
  have HS := Lib.hid (sign_any b z S w h)
  have hq : z.sign = 0 ∧ z = 0 ∨ z.sign ≠ 0 ∧ z ≠ 0 := by
    by_cases e : z = 0
    · left; subst e; exact ⟨rfl, rfl⟩
    · right; exact ⟨fun h => e (Int.sign_eq_zero_iff_zero.1 h), e⟩
  obtain ⟨s, hs⟩ : ∃ s, z.sign = s := ⟨_, rfl⟩
  rw [hs] at HS hq
  clear hs h
  rcases hq with ⟨rfl, rfl⟩ | ⟨h1, h2⟩
  · go_enter Tryz.func79, Tryz.ntmps79
    go_wp2_with fail
    refine HS.out.mono ?_
    rintro e w1 ⟨rfl, rfl⟩
    go_wp2_with fail
    go_ret
    exact ⟨rfl, rfl⟩
  · have hb : (s != 0) = true := by simpa using h1
    have HR := Lib.hid (show (z != 0) = true by simpa using h2)
    clear h1 h2
    go_enter Tryz.func79, Tryz.ntmps79
    go_wp2_with fail
    refine HS.out.mono ?_
    rintro e w1 ⟨rfl, rfl⟩
    go_wp2_with fail
    go_ret
    exact ⟨by rw [HR.out]; rfl, rfl⟩

/-- All are 0. -/
def allZ (zs : List Int) : Bool := zs.all (· == 0)
/-- What IndexFunc tells of a row: a place, if there is a number that is not 0; else -1. -/
def IdxRes (zs : List Int) (w : World) (e : Ending) (w' : World) : Prop := ∃ i : Int, e = .returned (.int .i64 i) ∧ decide (0 ≤ i) = !allZ zs ∧ -1 ≤ i ∧ i ≤ 1000000 ∧ w = w'

set_option maxRecDepth 100000 in
set_option maxHeartbeats 1000000 in
theorem indexF_any (v : Value) (zs : List Int) (ps : List Value) (B0 : Nat) (w : World) (hv : RowP w B0 v zs ps) (hl : zs.length ≤ 1000000) :
    Calls Tryz.prog 112 #[v, .func (.func 79) #[] #[]] w (IdxRes zs w) := by
  obtain ⟨o, cap, rfl, _, _⟩ := hv.form
  obtain ⟨n, hn⟩ : ∃ n, zs.length = n := ⟨_, rfl⟩
  have HV := Lib.hid hv
  rw [hn] at hl ⊢
  have HN := Lib.hid hn
  clear hn hv
  go_enter Tryz.func112, Tryz.ntmps112
  go_wp2_with fail
  go_loop [8] (fun i => ∃ k : Nat, k ≤ n ∧ i = .int .i64 k ∧ Hid (∀ j (h : j < zs.length), j < k → zs[j] = 0)) (fun i => n - (intOf i).toNat)
  case atStart => exact ⟨0, Nat.zero_le _, rfl, fun j _ h => by omega⟩
  case round =>
    obtain ⟨k, hk, rfl, hf⟩ := hrel
    by_cases hlt : k < n
    · have hk' : k < zs.length := by have := HN.out; omega
      obtain ⟨a, cap', ha, _, hal, hcs⟩ := HV.out.cell (by omega)
      obtain ⟨p, hp, hc⟩ := hcs k hk'
      obtain ⟨p', hp', bz, Sz, rfl, hz, hSz⟩ := HV.out.ints k hk'
      rw [hp] at hp'
      obtain rfl := Option.some.inj hp'
      simp only [Value.slice.injEq] at ha
      obtain ⟨rfl, _, rfl⟩ := ha
      have HZ1 := Lib.hid (zero1_any bz zs[k] Sz w hz)
      have HNXT : zs[k] = 0 → Hid (∀ j (h : j < zs.length), j < k + 1 → zs[j] = 0) := fun h0 j hj hlt' => by
        by_cases e : j = k
        · subst e; exact h0
        · exact hf.out j hj (by omega)
      have HSOME : zs[k] ≠ 0 → Hid (allZ zs = false) := fun h0 => by
        show allZ zs = false
        unfold allZ
        rw [List.all_eq_false]
        exact ⟨_, List.getElem_mem hk', by simpa using h0⟩
      obtain ⟨z, hzk⟩ : ∃ z, zs[k] = z := ⟨_, rfl⟩
      rw [hzk] at HZ1 HNXT HSOME
      clear hzk hcs hp hz hSz
      by_cases h0 : z = 0
      · have HX := HNXT h0
        subst h0
        clear HNXT HSOME
        go_wp2_with fail
        refine HZ1.out.mono ?_
        rintro e w1 ⟨rfl, rfl⟩
        go_wp2_with fail
        go_round
        case rel => exact ⟨k + 1, by omega, by go_num, HX⟩
        case measure => simp [intOf]; omega
      · have HS := HSOME h0
        rw [show (z != 0) = true by simpa using h0] at HZ1
        clear HNXT HSOME h0
        go_wp2_with fail
        refine HZ1.out.mono ?_
        rintro e w1 ⟨rfl, rfl⟩
        go_wp2_with fail
        go_ret
        exact ⟨k, rfl, by rw [HS.out]; simp, by omega, by omega, rfl⟩
    · obtain rfl : k = n := by omega
      have HS := Lib.hid (show allZ zs = true by
        unfold allZ
        rw [List.all_eq_true]
        intro z hz
        obtain ⟨j, hj, rfl⟩ := List.getElem_of_mem hz
        simpa using hf.out j hj (by have := HN.out; omega))
      go_wp2_with fail
      go_ret
      exact ⟨-1, rfl, by rw [HS.out]; simp, by omega, by omega, rfl⟩

set_option maxRecDepth 100000 in
set_option maxHeartbeats 1000000 in
theorem rzero_any (v : Value) (zs : List Int) (ps : List Value) (B0 : Nat) (w : World) (hv : RowP w B0 v zs ps) (hl : zs.length ≤ 1000000) :
    Calls Tryz.prog 50 #[v] w fun e w' => e = .returned (.bool (allZ zs)) ∧ w = w' := by
  have HI := Lib.hid (indexF_any v zs ps B0 w hv hl)
  have HC : Hid (Calls Tryz.prog 78 #[v, .func (.func 79) #[] #[]] w fun e w' => e = .returned (.bool (!allZ zs)) ∧ w = w') := by
    show Calls _ _ _ _ _
    obtain ⟨o, cap, rfl, _, _⟩ := hv.form
    clear hv
    obtain ⟨b, hb⟩ : ∃ b, allZ zs = b := ⟨_, rfl⟩
    have HI' := HI
    unfold IdxRes at HI'
    rw [hb] at HI' ⊢
    clear HI hb
    go_enter Tryz.func78, Tryz.ntmps78
    go_wp2_with fail
    refine HI'.out.mono ?_
    rintro e w1 ⟨i, rfl, hi, h1, h2, rfl⟩
    go_wp2_with fail
    go_ret
    exact ⟨by rw [← hi]; rfl, rfl⟩
  obtain ⟨o, cap, rfl, _, _⟩ := hv.form
  clear hv HI
  obtain ⟨b, hb⟩ : ∃ b, allZ zs = b := ⟨_, rfl⟩
  rw [hb] at HC ⊢
  clear hb
  go_enter Tryz.func50, Tryz.ntmps50
  go_wp2_with fail
  refine HC.out.mono ?_
  rintro e w1 ⟨rfl, rfl⟩
  go_wp2_with fail
  go_ret
  exact ⟨by cases b <;> rfl, rfl⟩
end Go.Proofs.YtochcofoknfjfaaGreatDoor
