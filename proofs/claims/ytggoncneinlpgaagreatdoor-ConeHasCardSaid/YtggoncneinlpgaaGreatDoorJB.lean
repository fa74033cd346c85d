/- Walk of the reference: cone.valid of two kinds of rows. Walk of the reference: cone.Has. -/
import Derived.Test.YtggoncneinlpgaaGreatDoorH67
import Derived.Test.YtggoncneinlpgaaGreatDoorD23
namespace Go.Proofs.YtggoncneinlpgaaGreatDoor
open Go Go.RowKit Nt

/-- A slice of two matrices. -/
structure Kinds (w : World) (v : Value) (up ev : List (List Int)) : Prop where
  ex : ∃ b, v = .slice (some ⟨b, 0, none⟩) 2 2 ∧ b < w.heap.size ∧ ∀ i (h : i < 2), ∃ mv, w.cell? ⟨b, i, none⟩ = some mv ∧ MatAt w mv ([up, ev][i])
theorem Kinds.new {w : World} {vu ve : Value} {up ev : List (List Int)} (t : TypeId) (hu : MatAt w vu up) (hv : MatAt w ve ev) : Kinds (w.alloc (.cells #[vu, ve] t)) (.slice (some ⟨w.heap.size, 0, none⟩) 2 2) up ev := by
  have hb : Below w.heap.size w (w.alloc (.cells #[vu, ve] t)) := (Below.refl _ _).alloc (Nat.le_refl _) _
  refine ⟨⟨_, rfl, by simp, fun i hi => ?_⟩⟩
  rcases (show i = 0 ∨ i = 1 by omega) with rfl | rfl
  · exact ⟨vu, by simp, hu.below hb (Nat.le_refl _)⟩
  · exact ⟨ve, by simp, hv.below hb (Nat.le_refl _)⟩
/-- The value of the error of a number. -/
def errJ (a : Nat → Addr) (c : Int) : Value := if c = 0 then .nilIface else sentV a (c.toNat - 1)
theorem snocJ {α : Type} (p : α → Bool) (l : List α) (x : α) : (l ++ [x]).any p = (l.any p || p x) := by simp

set_option maxRecDepth 100000 in
set_option maxHeartbeats 2000000 in
theorem kinds_bound (v : Value) (dim : Int) (up ev : List (List Int)) (a : Nat → Addr) (w : World) (he : ErrW w a) (hv : Kinds w v up ev) (hlu : up.length ≤ 1000) (hle : ev.length ≤ 1000) (h : dim < 0 ∨ 6 < dim ∨ 24 < up.length + ev.length) :
    Calls Tryz.prog 25 #[.int .i64 dim, v] w fun e w' => e = .returned (sentV a 1) ∧ w = w' := by
  obtain ⟨b, rfl, hb, hc⟩ := hv.ex
  have HC := Lib.hid hc
  have hg : w.cell? ⟨1, 0, none⟩ = some (.iface 345 (.pointer (some (a 1)))) := he.var 1 (by decide)
  obtain ⟨n, hn⟩ : ∃ n, up.length = n := ⟨_, rfl⟩
  obtain ⟨m, hm⟩ : ∃ n, ev.length = n := ⟨_, rfl⟩
  rw [hn, hm] at h
  rw [hn] at hlu
  rw [hm] at hle
  have HN := Lib.hid hn
  have HM := Lib.hid hm
  clear hv hc he hn hm
  go_enter Tryz.func25, Tryz.ntmps25
  go_wp2_with fail
  go_loop [5, 18] (fun s i => (i = .int .i64 0 ∧ s = .int .i64 0) ∨ (i = .int .i64 1 ∧ s = .int .i64 n) ∨ (i = .int .i64 2 ∧ s = .int .i64 ((n : Int) + (m : Int)))) (fun _ i => 2 - (intOf i).toNat)
  case atStart => exact .inl ⟨rfl, rfl⟩
  case round =>
    rcases hrel with ⟨rfl, rfl⟩ | ⟨rfl, rfl⟩ | ⟨rfl, rfl⟩
    · obtain ⟨mv, h1, o, cap, rfl, h2⟩ := HC.out 0 (by decide)
      have e1 : ([up, ev][0]).length = n := HN.out
      rw [e1] at h1
      clear h2 e1 h
      go_wp2_with fail
      go_round
      case rel => exact .inr (.inl ⟨rfl, by go_num⟩)
      case measure => simp [intOf]
    · obtain ⟨mv, h1, o, cap, rfl, h2⟩ := HC.out 1 (by decide)
      have e1 : ([up, ev][1]).length = m := HM.out
      rw [e1] at h1
      clear h2 e1 h
      go_wp2_with fail
      go_round
      case rel => exact .inr (.inr ⟨rfl, by go_num⟩)
      case measure => simp [intOf]
    · by_cases h1 : dim < 0
      · have d1 : decide (dim < 0) = true := by simpa using h1
        clear h h1
        go_wp2_with fail
        go_ret
        exact ⟨rfl, rfl⟩
      · have d1 : decide (dim < 0) = false := by simpa using h1
        by_cases h2 : 6 < dim
        · have d2 : decide (6 < dim) = true := by simpa using h2
          clear h h1 h2
          go_wp2_with fail
          go_ret
          exact ⟨rfl, rfl⟩
        · have d2 : decide (6 < dim) = false := by simpa using h2
          have d3 : decide (24 < (n : Int) + (m : Int)) = true := by simp; omega
          clear h h1 h2
          go_wp2_with fail
          go_ret
          exact ⟨rfl, rfl⟩

set_option maxRecDepth 100000 in
set_option maxHeartbeats 4000000 in
theorem kinds_in (v : Value) (dim : Int) (up ev : List (List Int)) (a : Nat → Addr) (w : World) (he : ErrW w a) (hv : Kinds w v up ev) (h : ¬ (dim < 0 ∨ 6 < dim ∨ 24 < up.length + ev.length)) (hM : ∀ r ∈ up ++ ev, r.length ≤ 1000000) :
    Calls Tryz.prog 25 #[.int .i64 dim, v] w fun e w' => e = .returned (errJ a (coneErr dim (up ++ ev))) ∧ w = w' := by
  obtain ⟨b, rfl, hb, hc⟩ := hv.ex
  have HC := Lib.hid hc
  have HM := Lib.hid hM
  have hg1 : w.cell? ⟨1, 0, none⟩ = some (.iface 345 (.pointer (some (a 1)))) := he.var 1 (by decide)
  have hg2 : w.cell? ⟨0, 0, none⟩ = some (.iface 345 (.pointer (some (a 2)))) := he.var 2 (by decide)
  have HP := Lib.hid (show coneErr dim (up ++ ev) = if (up ++ ev).any (fun r => (r.length : Int) != dim) then 3 else if (up ++ ev).any largeB then 2 else 0 from if_neg (by rw [List.length_append]; exact h))
  obtain ⟨res, hres⟩ : ∃ r, errJ a (coneErr dim (up ++ ev)) = r := ⟨_, rfl⟩
  have HR := Lib.hid hres
  have HU := Lib.hid (fun (i : Nat) (hi : i < 2) => show ([up, ev][i]).length ≤ 24 by
    rcases (show i = 0 ∨ i = 1 by omega) with rfl | rfl
    · show up.length ≤ 24; omega
    · show ev.length ≤ 24; omega)
  have HIN := Lib.hid (fun (i : Nat) (hi : i < 2) (j : Nat) (hj : j < ([up, ev][i]).length) => show ([up, ev][i])[j] ∈ up ++ ev by
    rcases (show i = 0 ∨ i = 1 by omega) with rfl | rfl
    · exact List.mem_append_left _ (List.getElem_mem hj)
    · exact List.mem_append_right _ (List.getElem_mem hj))
  -- the rows ahead of kind k
  obtain ⟨pre, hpre⟩ : ∃ pre : Nat → List (List Int), pre = fun k => ([up, ev].take k).flatten := ⟨_, rfl⟩
  have HQ0 : Hid (pre 0 = []) := by show pre 0 = []; rw [hpre]; rfl
  have HQ2 : Hid (pre 2 = up ++ ev) := by show pre 2 = _; rw [hpre]; simp
  have HQS := Lib.hid (fun (i : Nat) (hi : i < 2) => show pre (i + 1) = pre i ++ [up, ev][i] by
    rw [hpre]
    rcases (show i = 0 ∨ i = 1 by omega) with rfl | rfl
    · simp
    · simp)
  obtain ⟨n, hn⟩ : ∃ n, up.length = n := ⟨_, rfl⟩
  obtain ⟨m, hm⟩ : ∃ n, ev.length = n := ⟨_, rfl⟩
  rw [hn, hm] at h
  have HN := Lib.hid hn
  have HMM := Lib.hid hm
  have d1 : decide (dim < 0) = false := by simp; omega
  have d2 : decide (6 < dim) = false := by simp; omega
  have d3 : decide (24 < (n : Int) + (m : Int)) = false := by simp; omega
  have hnm : n + m ≤ 24 := by omega
  rw [hres]
  clear hv hc he hn hm hM hres hpre h
  go_enter Tryz.func25, Tryz.ntmps25
  go_wp2_with fail
  go_loop [5, 18] (fun s i => (i = .int .i64 0 ∧ s = .int .i64 0) ∨ (i = .int .i64 1 ∧ s = .int .i64 n) ∨ (i = .int .i64 2 ∧ s = .int .i64 ((n : Int) + (m : Int)))) (fun _ i => 2 - (intOf i).toNat)
  case atStart => exact .inl ⟨rfl, rfl⟩
  case round =>
    rcases hrel with ⟨rfl, rfl⟩ | ⟨rfl, rfl⟩ | ⟨rfl, rfl⟩
    · obtain ⟨mv, h1, o, cap, rfl, h2⟩ := HC.out 0 (by decide)
      have e1 : ([up, ev][0]).length = n := HN.out
      rw [e1] at h1
      clear h2 e1
      go_wp2_with fail
      go_round
      case rel => exact .inr (.inl ⟨rfl, by go_num⟩)
      case measure => simp [intOf]
    · obtain ⟨mv, h1, o, cap, rfl, h2⟩ := HC.out 1 (by decide)
      have e1 : ([up, ev][1]).length = m := HMM.out
      rw [e1] at h1
      clear h2 e1
      go_wp2_with fail
      go_round
      case rel => exact .inr (.inr ⟨rfl, by go_num⟩)
      case measure => simp [intOf]
    · go_wp2_with fail
      go_loop [40] (fun i => ∃ k : Nat, k ≤ 2 ∧ i = .int .i64 k ∧ Hid ((pre k).any (fun r => (r.length : Int) != dim) = false)) (fun i => 2 - (intOf i).toNat)
      case atStart => exact ⟨0, by omega, rfl, by show (pre 0).any _ = _; rw [HQ0.out]; rfl⟩
      case round =>
        obtain ⟨k, hk, rfl, hsh⟩ := hrel
        by_cases hlt : k < 2
        · obtain ⟨mv, h1, hma⟩ := HC.out k hlt
          have hlu := HU.out k hlt
          have HIN' := Lib.hid (HIN.out k hlt)
          have HPS := Lib.hid (HQS.out k hlt)
          generalize [up, ev][k] = mm at *
          obtain ⟨o, cap, rfl, hq⟩ := id hma
          clear hq
          have HMA := Lib.hid hma
          obtain ⟨l, hl⟩ : ∃ l, mm.length = l := ⟨_, rfl⟩
          have HL := Lib.hid hl
          rw [hl] at hlu h1 HMA
          clear hma hl
          go_wp2_with fail
          go_loop [46] (fun i => ∃ j : Nat, j ≤ l ∧ i = .int .i64 j ∧ Hid ((mm.take j).any (fun r => (r.length : Int) != dim) = false)) (fun i => l - (intOf i).toNat)
          case atStart => exact ⟨0, by omega, rfl, rfl⟩
          case round =>
            obtain ⟨j, hj, rfl, hs2⟩ := hrel
            by_cases hlt2 : j < l
            · have hj' : j < mm.length := by have := HL.out; omega
              obtain ⟨bb, off, cap', oa, ca', e1, hbl, h2, h3⟩ := HMA.out.get hj'
              simp only [Value.slice.injEq] at e1
              obtain ⟨rfl, hnn, rfl⟩ := e1
              have HS : (((mm[j].length : Nat) : Int) != dim) = false → Hid ((mm.take (j + 1)).any (fun r => (r.length : Int) != dim) = false) := fun h => by
                show _ = false
                rw [List.take_succ_eq_append_getElem hj', List.any_append, hs2.out, Bool.false_or]
                simpa using h
              have HX : (((mm[j].length : Nat) : Int) != dim) = true → Hid (res = sentV a 2) := fun h => by
                show res = sentV a 2
                rw [← HR.out, HP.out, if_pos (List.any_eq_true.2 ⟨_, HIN'.out j hj', h⟩)]
                rfl
              clear h3 hnn hs2
              obtain ⟨la, hla⟩ : ∃ l, mm[j].length = l := ⟨_, rfl⟩
              rw [hla] at h2 HS HX
              clear hla
              by_cases hs : ((la : Int) != dim) = true
              · have HX' := HX hs
                clear HX HS
                go_wp2_with fail
                go_ret
                exact ⟨by rw [HX'.out]; rfl, rfl⟩
              · have hs' : ((la : Int) != dim) = false := by simpa using hs
                have HS' := HS hs'
                clear HX HS hs
                go_wp2_with fail
                go_round
                case rel => exact ⟨j + 1, by omega, by go_num, HS'⟩
                case measure => simp [intOf]; omega
            · obtain rfl : j = l := by omega
              have hT := List.take_of_length_le (l := mm) (i := j) (by have := HL.out; omega)
              rw [hT] at hs2
              have HS' : Hid ((pre (k + 1)).any (fun r => (r.length : Int) != dim) = false) := by
                show _ = false
                rw [HPS.out, List.any_append, hsh.out, hs2.out]
                rfl
              clear hT hs2
              go_wp2_with fail
              go_round
              case rel => exact ⟨k + 1, by omega, by go_num, HS'⟩
              case measure => simp [intOf]; omega
        · obtain rfl : k = 2 := by omega
          have hsh2 := hsh.out
          rw [HQ2.out] at hsh2
          rw [hsh2] at HP
          clear hsh hsh2
          go_wp2_with fail
          go_loop [59] (fun i => ∃ k : Nat, k ≤ 2 ∧ i = .int .i64 k ∧ Hid ((pre k).any largeB = false)) (fun i => 2 - (intOf i).toNat)
          case atStart => exact ⟨0, by omega, rfl, by show (pre 0).any _ = _; rw [HQ0.out]; rfl⟩
          case round =>
            obtain ⟨k, hk, rfl, hsh⟩ := hrel
            by_cases hlt : k < 2
            · obtain ⟨mv, h1, hma⟩ := HC.out k hlt
              have hlu := HU.out k hlt
              have HIN' := Lib.hid (HIN.out k hlt)
              have HPS := Lib.hid (HQS.out k hlt)
              generalize [up, ev][k] = mm at *
              obtain ⟨o, cap, rfl, hq⟩ := id hma
              clear hq
              have HMA := Lib.hid hma
              obtain ⟨l, hl⟩ : ∃ l, mm.length = l := ⟨_, rfl⟩
              have HL := Lib.hid hl
              rw [hl] at hlu h1 HMA
              clear hma hl
              go_wp2_with fail
              go_loop [65] (fun i => ∃ j : Nat, j ≤ l ∧ i = .int .i64 j ∧ Hid ((mm.take j).any largeB = false)) (fun i => l - (intOf i).toNat)
              case atStart => exact ⟨0, by omega, rfl, rfl⟩
              case round =>
                obtain ⟨j, hj, rfl, hs2⟩ := hrel
                by_cases hlt2 : j < l
                · have hj' : j < mm.length := by have := HL.out; omega
                  obtain ⟨bb, off, cap', oa, ca', e1, hbl, h2, h3⟩ := HMA.out.get hj'
                  simp only [Value.slice.injEq] at e1
                  obtain ⟨rfl, hnn, rfl⟩ := e1
                  have HA := Lib.hid (large_any _ _ w h3 (HM.out _ (HIN'.out j hj')))
                  have HS : largeB mm[j] = false → Hid ((mm.take (j + 1)).any largeB = false) := fun h => by
                    show _ = false
                    rw [List.take_succ_eq_append_getElem hj', List.any_append, hs2.out, Bool.false_or]
                    simpa using h
                  have HX : largeB mm[j] = true → Hid (res = sentV a 1) := fun h => by
                    show res = sentV a 1
                    rw [← HR.out, HP.out, if_neg (by simp), if_pos (List.any_eq_true.2 ⟨_, HIN'.out j hj', h⟩)]
                    rfl
                  obtain ⟨g, hgg⟩ : ∃ g, largeB mm[j] = g := ⟨_, rfl⟩
                  rw [hgg] at HS HX HA
                  clear h3 hnn hs2 hgg
                  obtain ⟨la, hla⟩ : ∃ l, mm[j].length = l := ⟨_, rfl⟩
                  rw [hla] at h2 HA
                  clear hla
                  cases g
                  · have HS' := HS rfl
                    clear HX HS
                    go_wp2_with fail
                    refine HA.out.mono ?_
                    rintro e w1 ⟨rfl, rfl⟩
                    go_wp2_with fail
                    go_round
                    case rel => exact ⟨j + 1, by omega, by go_num, HS'⟩
                    case measure => simp [intOf]; omega
                  · have HX' := HX rfl
                    clear HX HS
                    go_wp2_with fail
                    refine HA.out.mono ?_
                    rintro e w1 ⟨rfl, rfl⟩
                    go_wp2_with fail
                    go_ret
                    exact ⟨by rw [HX'.out]; rfl, rfl⟩
                · obtain rfl : j = l := by omega
                  have hT := List.take_of_length_le (l := mm) (i := j) (by have := HL.out; omega)
                  rw [hT] at hs2
                  have HS' : Hid ((pre (k + 1)).any largeB = false) := by
                    show _ = false
                    rw [HPS.out, List.any_append, hsh.out, hs2.out]
                    rfl
                  clear hT hs2
                  go_wp2_with fail
                  go_round
                  case rel => exact ⟨k + 1, by omega, by go_num, HS'⟩
                  case measure => simp [intOf]; omega
            · obtain rfl : k = 2 := by omega
              have hsh2 := hsh.out
              rw [HQ2.out] at hsh2
              have HX : Hid (res = .nilIface) := by
                show res = .nilIface
                rw [← HR.out, HP.out, hsh2]
                rfl
              clear hsh hsh2
              go_wp2_with fail
              go_ret
              exact ⟨by rw [HX.out]; rfl, rfl⟩

theorem kinds_any (v : Value) (dim : Int) (up ev : List (List Int)) (a : Nat → Addr) (w : World) (he : ErrW w a) (hv : Kinds w v up ev) (hlu : up.length ≤ 1000) (hle : ev.length ≤ 1000) (hM : ∀ r ∈ up ++ ev, r.length ≤ 1000000) :
    Calls Tryz.prog 25 #[.int .i64 dim, v] w fun e w' => e = .returned (errJ a (coneErr dim (up ++ ev))) ∧ w = w' := by
  by_cases h : dim < 0 ∨ 6 < dim ∨ 24 < up.length + ev.length
  · rw [show coneErr dim (up ++ ev) = 2 from if_pos (by rw [List.length_append]; exact h)]
    exact kinds_bound v dim up ev a w he hv hlu hle h
  · exact kinds_in v dim up ev a w he hv h hM

set_option maxRecDepth 100000 in
set_option maxHeartbeats 1000000 in
theorem validCone_any (vu ve : Value) (dim : Int) (up ev : List (List Int)) (a : Nat → Addr) (w : World) (he : ErrW w a) (hu : MatAt w vu up) (hv : MatAt w ve ev) (hlu : up.length ≤ 1000) (hle : ev.length ≤ 1000) (hM : ∀ r ∈ up ++ ev, r.length ≤ 1000000) :
    Calls Tryz.prog 16 #[.agg #[.int .i64 dim, vu, ve]] w fun e w' => e = .returned (errJ a (coneErr dim (up ++ ev))) ∧ Below w.heap.size w w' := by
  have HB : ∀ o o2, Hid (Below w.heap.size w ((w.alloc o).alloc o2)) := fun o o2 => ((Below.refl _ _).alloc (Nat.le_refl _) o).alloc (by simp) o2
  have HA := Lib.hid (fun (o : Obj) (t : TypeId) => show Calls Tryz.prog 25 #[.int .i64 dim, .slice (some ⟨w.heap.size + 1, 0, none⟩) 2 2] ((w.alloc o).alloc (.cells #[vu, ve] t)) fun e w' => e = .returned (errJ a (coneErr dim (up ++ ev))) ∧ (w.alloc o).alloc (.cells #[vu, ve] t) = w' by
    have hb : Below w.heap.size w (w.alloc o) := (Below.refl _ _).alloc (Nat.le_refl _) o
    have := kinds_any _ dim up ev a ((w.alloc o).alloc (.cells #[vu, ve] t)) (he.below (HB o _).out (Nat.le_refl _)) (Kinds.new t (hu.below hb (Nat.le_refl _)) (hv.below hb (Nat.le_refl _))) hlu hle hM
    rwa [World.size_alloc] at this)
  obtain ⟨ou, cu, rfl, qu⟩ := hu
  obtain ⟨ov, cv, rfl, qv⟩ := hv
  clear qu qv he
  generalize up.length = lu at *
  generalize ev.length = lv at *
  go_enter Tryz.func16, Tryz.ntmps16
  go_wp2_with fail
  refine (HA.out _ _).mono ?_
  rintro e w1 ⟨rfl, rfl⟩
  go_wp2_with fail
  go_ret
  exact ⟨rfl, (HB _ _).out⟩
end Go.Proofs.YtggoncneinlpgaaGreatDoor
namespace Go.Proofs.YtggoncneinlpgaaGreatDoor
open Go Go.RowKit Nt

set_option maxRecDepth 100000 in
set_option maxHeartbeats 1000000 in
theorem has_err1 (vu ve vx : Value) (dim : Int) (up ev : List (List Int)) (x : List Int) (a : Nat → Addr) (w : World) (he : ErrW w a) (hu : MatAt w vu up) (hv : MatAt w ve ev) (hx : SliceI w vx x) (hlu : up.length ≤ 1000) (hle : ev.length ≤ 1000) (hM : ∀ r ∈ up ++ ev, r.length ≤ 1000000) (h : coneErr dim (up ++ ev) ≠ 0) :
    Calls Tryz.prog 8 #[.agg #[.int .i64 dim, vu, ve], vx] w fun e w' => e = .returned (.tuple #[.bool false, errJ a (coneErr dim (up ++ ev))]) ∧ Below w.heap.size w w' := by
  have hb0 : ∀ o, Below w.heap.size w (w.alloc o) := fun o => (Below.refl _ _).alloc (Nat.le_refl _) o
  have HB := Lib.hid hb0
  have HA := Lib.hid (fun o => validCone_any vu ve dim up ev a (w.alloc o) (he.below (hb0 o) (Nat.le_refl _)) (hu.below (hb0 o) (Nat.le_refl _)) (hv.below (hb0 o) (Nat.le_refl _)) hlu hle hM)
  obtain ⟨i, hn⟩ : ∃ i, errJ a (coneErr dim (up ++ ev)) = sentV a i := by unfold errJ; rw [if_neg h]; exact ⟨_, rfl⟩
  rw [hn] at HA ⊢
  obtain ⟨ou, cu, rfl, qu⟩ := hu
  obtain ⟨ov, cv, rfl, qv⟩ := hv
  obtain ⟨ox, cx, rfl, qx⟩ := hx
  clear qu qv qx he hb0 hn h
  generalize up.length = lu at *
  generalize ev.length = lv at *
  generalize x.length = lx at *
  unfold sentV at HA ⊢
  go_enter Tryz.func8, Tryz.ntmps8
  go_wp2_with fail
  refine (HA.out _).mono ?_
  rintro e w1 ⟨rfl, hb1⟩
  have HB1 := Lib.hid ((HB.out _).trans (hb1.mono (HB.out _).size))
  clear hb1
  go_wp2_with fail
  go_ret2
  exact ⟨rfl, HB1.out⟩

set_option maxRecDepth 100000 in
set_option maxHeartbeats 1000000 in
theorem has_err2 (vu ve vx : Value) (dim : Int) (up ev : List (List Int)) (x : List Int) (a : Nat → Addr) (w : World) (he : ErrW w a) (hu : MatAt w vu up) (hv : MatAt w ve ev) (hx : SliceI w vx x) (hlu : up.length ≤ 1000) (hle : ev.length ≤ 1000) (hM : ∀ r ∈ up ++ ev, r.length ≤ 1000000) (h : coneErr dim (up ++ ev) = 0) (hs : ((x.length : Int) != dim) = true) :
    Calls Tryz.prog 8 #[.agg #[.int .i64 dim, vu, ve], vx] w fun e w' => e = .returned (.tuple #[.bool false, sentV a 2]) ∧ Below w.heap.size w w' := by
  have hb0 : ∀ o, Below w.heap.size w (w.alloc o) := fun o => (Below.refl _ _).alloc (Nat.le_refl _) o
  have HB := Lib.hid hb0
  have HE := Lib.hid he
  have HA := Lib.hid (fun o => validCone_any vu ve dim up ev a (w.alloc o) (he.below (hb0 o) (Nat.le_refl _)) (hu.below (hb0 o) (Nat.le_refl _)) (hv.below (hb0 o) (Nat.le_refl _)) hlu hle hM)
  rw [show errJ a (coneErr dim (up ++ ev)) = .nilIface by rw [h]; rfl] at HA
  obtain ⟨ou, cu, rfl, qu⟩ := hu
  obtain ⟨ov, cv, rfl, qv⟩ := hv
  obtain ⟨ox, cx, rfl, qx⟩ := hx
  clear qu qv qx he hb0 h
  generalize up.length = lu at *
  generalize ev.length = lv at *
  generalize x.length = lx at *
  go_enter Tryz.func8, Tryz.ntmps8
  go_wp2_with fail
  refine (HA.out _).mono ?_
  rintro e w1 ⟨rfl, hb1⟩
  have hb01 := (HB.out _).trans (hb1.mono (HB.out _).size)
  have HB1 := Lib.hid hb01
  have hc0 : w1.cell? ⟨w.heap.size, 0, none⟩ = some (.int .i64 dim) := (hb1.cell (p := ⟨w.heap.size, 0, none⟩) (by simp)).trans (by simp)
  have hg : w1.cell? ⟨0, 0, none⟩ = some (.iface 345 (.pointer (some (a 2)))) := (HE.out.below hb01 (Nat.le_refl _)).var 2 (by decide)
  clear hb1 hb01
  go_wp2_with fail
  go_quiet (fail)
  go_wp2_with fail
  go_ret2
  exact ⟨rfl, below_drewN' HB1.out _⟩

set_option maxRecDepth 100000 in
set_option maxHeartbeats 1000000 in
theorem has_err3 (vu ve vx : Value) (dim : Int) (up ev : List (List Int)) (x : List Int) (a : Nat → Addr) (w : World) (he : ErrW w a) (hu : MatAt w vu up) (hv : MatAt w ve ev) (hx : SliceI w vx x) (hlu : up.length ≤ 1000) (hle : ev.length ≤ 1000) (hM : ∀ r ∈ up ++ ev, r.length ≤ 1000000) (h : coneErr dim (up ++ ev) = 0) (hs : ((x.length : Int) != dim) = false) (hlx : x.length ≤ 1000000) (hl : largeB x = true) :
    Calls Tryz.prog 8 #[.agg #[.int .i64 dim, vu, ve], vx] w fun e w' => e = .returned (.tuple #[.bool false, sentV a 1]) ∧ Below w.heap.size w w' := by
  have hb0 : ∀ o, Below w.heap.size w (w.alloc o) := fun o => (Below.refl _ _).alloc (Nat.le_refl _) o
  have HB := Lib.hid hb0
  have HE := Lib.hid he
  have HA := Lib.hid (fun o => validCone_any vu ve dim up ev a (w.alloc o) (he.below (hb0 o) (Nat.le_refl _)) (hu.below (hb0 o) (Nat.le_refl _)) (hv.below (hb0 o) (Nat.le_refl _)) hlu hle hM)
  rw [show errJ a (coneErr dim (up ++ ev)) = .nilIface by rw [h]; rfl] at HA
  have HL := Lib.hid (fun w1 (hb : Below w.heap.size w w1) => large_any vx x w1 (hx.below hb (Nat.le_refl _)) hlx)
  rw [hl] at HL
  obtain ⟨ou, cu, rfl, qu⟩ := hu
  obtain ⟨ov, cv, rfl, qv⟩ := hv
  obtain ⟨ox, cx, rfl, qx⟩ := hx
  clear qu qv qx he hb0 h hl
  generalize up.length = lu at *
  generalize ev.length = lv at *
  generalize x.length = lx at *
  go_enter Tryz.func8, Tryz.ntmps8
  go_wp2_with fail
  refine (HA.out _).mono ?_
  rintro e w1 ⟨rfl, hb1⟩
  have hb01 := (HB.out _).trans (hb1.mono (HB.out _).size)
  have HB1 := Lib.hid hb01
  have hc0 : w1.cell? ⟨w.heap.size, 0, none⟩ = some (.int .i64 dim) := (hb1.cell (p := ⟨w.heap.size, 0, none⟩) (by simp)).trans (by simp)
  have hg : w1.cell? ⟨1, 0, none⟩ = some (.iface 345 (.pointer (some (a 1)))) := (HE.out.below hb01 (Nat.le_refl _)).var 1 (by decide)
  have HL1 := Lib.hid (HL.out w1 hb01)
  clear hb1 hb01
  go_wp2_with fail
  refine HL1.out.mono ?_
  rintro e w2 ⟨rfl, rfl⟩
  go_wp2_with fail
  go_quiet (fail)
  go_wp2_with fail
  go_ret2
  exact ⟨rfl, below_drewN' HB1.out _⟩

theorem all_snocJ {α : Type} (p : α → Bool) (l : List α) (x : α) : (l ++ [x]).all p = (l.all p && p x) := by simp
/-- One row of Has: a row made anew, and its product with the point. -/
theorem hasDot {w1 w3 wr w4 w5 : World} {va vp : Value} {r x : List Int} {ps qs : List Value} (hp : RowP w3 w1.heap.size vp x qs) (hb : Below w3.heap.size w3 wr) (ha : RowP w4 wr.heap.size va r ps) (hb4 : Below wr.heap.size wr w4) (hlen : r.length = x.length) (hr : Half r) (hx : Half x) (hl : r.length ≤ 1000000) (_ : w5 = w4) :
    Calls Tryz.prog 19 #[va, vp] w4 (IntNew w4 (dotZ r x)) :=
  edot_any va vp r x ps qs _ _ w4 ha ((hp.below hb (Nat.le_refl _)).below hb4 (Nat.le_refl _)) hlen (fun i p hi h1 h2 => by
    obtain ⟨b, rfl, h3, _⟩ := row_ptr_lt ha hi h1
    obtain ⟨b', e, _, h4⟩ := row_ptr_lt (hp.below hb (Nat.le_refl _)) (by omega) h2
    simp only [Value.pointer.injEq, Option.some.injEq, Addr.mk.injEq, and_true] at e
    omega) hr hx hl

set_option maxRecDepth 100000 in
set_option maxHeartbeats 4000000 in
theorem has_in (vu ve vx : Value) (dim : Int) (up ev : List (List Int)) (x : List Int) (a : Nat → Addr) (w : World) (he : ErrW w a) (hu : MatAt w vu up) (hv : MatAt w ve ev) (hx : SliceI w vx x) (hlu : up.length ≤ 1000) (hle : ev.length ≤ 1000) (hM : ∀ r ∈ up ++ ev, r.length ≤ 1000000) (h : coneErr dim (up ++ ev) = 0) (hs : ((x.length : Int) != dim) = false) (hlx : x.length ≤ 1000000) (hl : largeB x = false) :
    Calls Tryz.prog 8 #[.agg #[.int .i64 dim, vu, ve], vx] w fun e w' => e = .returned (.tuple #[.bool (hasB up ev x), .nilIface]) ∧ Below w.heap.size w w' := by
  have hb0 : ∀ o, Below w.heap.size w (w.alloc o) := fun o => (Below.refl _ _).alloc (Nat.le_refl _) o
  have HB := Lib.hid hb0
  have HA := Lib.hid (fun o => validCone_any vu ve dim up ev a (w.alloc o) (he.below (hb0 o) (Nat.le_refl _)) (hu.below (hb0 o) (Nat.le_refl _)) (hv.below (hb0 o) (Nat.le_refl _)) hlu hle hM)
  rw [show errJ a (coneErr dim (up ++ ev)) = .nilIface by rw [h]; rfl] at HA
  have HL := Lib.hid (fun w1 (hb : Below w.heap.size w w1) => large_any vx x w1 (hx.below hb (Nat.le_refl _)) hlx)
  rw [hl] at HL
  have HFX := Lib.hid (half_of hl)
  have HOX := Lib.hid (fun w1 (hb : Below w.heap.size w w1) => of_any vx x w1 (hx.below hb (Nat.le_refl _)) (fun z hz => by have := HFX.out z hz; omega) hlx)
  obtain ⟨_, _, _, z4, z5⟩ := coneErr_zero h
  have HLEN := Lib.hid (fun r (hr : r ∈ up ++ ev) => show r.length = x.length by
    have h1 := z4 r hr
    have h2 : ((x.length : Nat) : Int) = dim := by simpa using hs
    omega)
  have HFR := Lib.hid (fun r (hr : r ∈ up ++ ev) => half_of (z5 r hr))
  have HOR := Lib.hid (fun (w1 : World) (v : Value) r (hr : r ∈ up ++ ev) (hv : SliceI w1 v r) => of_any v r w1 hv (fun z hz => by have := HFR.out r hr z hz; omega) (hM r hr))
  have HMM := Lib.hid hM
  have HU := Lib.hid hu
  have HV := Lib.hid hv
  obtain ⟨ou, cu, rfl, qu⟩ := hu
  obtain ⟨ov, cv, rfl, qv⟩ := hv
  obtain ⟨ox, cx, rfl, qx⟩ := hx
  obtain ⟨res, hres⟩ : ∃ r, hasB up ev x = r := ⟨_, rfl⟩
  have HR := Lib.hid hres
  obtain ⟨lu, hlu'⟩ : ∃ n, up.length = n := ⟨_, rfl⟩
  obtain ⟨lv, hlv'⟩ : ∃ n, ev.length = n := ⟨_, rfl⟩
  have HLU := Lib.hid hlu'
  have HLV := Lib.hid hlv'
  rw [hres]
  rw [hlu'] at hlu HU HA ⊢
  rw [hlv'] at hle HV HA ⊢
  clear qu qv qx he hb0 h hl hres hlu' hlv' z4 z5 hM hlx
  obtain ⟨lx, hlx'⟩ : ∃ n, x.length = n := ⟨_, rfl⟩
  rw [hlx'] at HL HOX hs ⊢
  clear hlx'
  go_enter Tryz.func8, Tryz.ntmps8
  go_wp2_with fail
  refine (HA.out _).mono ?_
  rintro e w1 ⟨rfl, hb1⟩
  have hb01 := (HB.out _).trans (hb1.mono (HB.out _).size)
  have hz1 : w.heap.size < w1.heap.size := by have := hb1.size; simp at this; omega
  have hc0 : w1.cell? ⟨w.heap.size, 0, none⟩ = some (.int .i64 dim) := (hb1.cell (p := ⟨w.heap.size, 0, none⟩) (by simp)).trans (by simp)
  have hc1 : w1.cell? ⟨w.heap.size, 1, none⟩ = some (.slice ou lu cu) := (hb1.cell (p := ⟨w.heap.size, 1, none⟩) (by simp)).trans (by simp)
  have hc2 : w1.cell? ⟨w.heap.size, 2, none⟩ = some (.slice ov lv cv) := (hb1.cell (p := ⟨w.heap.size, 2, none⟩) (by simp)).trans (by simp)
  have HC1 := Lib.hid hc1
  have HC2 := Lib.hid hc2
  have HB1 := Lib.hid hb01
  have HL1 := Lib.hid (HL.out w1 hb01)
  have HO1 := Lib.hid (HOX.out w1 hb01)
  clear hb1 hb01 hc1 hc2 HL HOX HA
  go_wp2_with fail
  refine HL1.out.mono ?_
  rintro e w2 ⟨rfl, rfl⟩
  go_wp2_with fail
  refine HO1.out.mono ?_
  rintro e w3 ⟨vp, rfl, ⟨qs, hp⟩, hb3⟩
  have hb03 := HB1.out.trans (hb3.mono HB1.out.size)
  have HB3 := Lib.hid hb03
  have HP3 := Lib.hid hp
  have hc1 : w3.cell? ⟨w.heap.size, 1, none⟩ = some (.slice ou lu cu) := (hb3.cell (p := ⟨w.heap.size, 1, none⟩) hz1).trans HC1.out
  have hc2 : w3.cell? ⟨w.heap.size, 2, none⟩ = some (.slice ov lv cv) := (hb3.cell (p := ⟨w.heap.size, 2, none⟩) hz1).trans HC2.out
  have hz3 : w.heap.size < w3.heap.size := Nat.lt_of_lt_of_le hz1 hb3.size
  have HC := Lib.hid hc2
  obtain ⟨op, cp, rfl, _, _⟩ := hp.form
  clear hb3 hb03 hp HC1 HC2 HO1 HL1 hc2
  go_wp2_with fail
  go_loopw [31] (fun i wr => ∃ k : Nat, k ≤ lu ∧ i = .int .i64 k ∧ Hid ((up.take k).all (fun r => decide (0 ≤ dotZ r x)) = true) ∧ Below w3.heap.size w3 wr) (fun i _ => lu - (intOf i).toNat)
  case atStart => exact ⟨0, Nat.zero_le _, rfl, rfl, Below.refl _ _⟩
  case round =>
    obtain ⟨k, hk, rfl, hsh, hb⟩ := hrel
    have hbw := HB3.out.trans (hb.mono HB3.out.size)
    by_cases hlt : k < lu
    · have hk' : k < up.length := by have := HLU.out; omega
      have hmem : up[k] ∈ up ++ ev := List.mem_append_left _ (List.getElem_mem hk')
      obtain ⟨b, off, cap', oa, ca, e1, hbl, h2, h3⟩ := (HU.out.below hbw (Nat.le_refl _)).get hk'
      simp only [Value.slice.injEq] at e1
      obtain ⟨rfl, hnn, rfl⟩ := e1
      have HOF := Lib.hid (HOR.out wr _ _ hmem h3)
      have HBR := Lib.hid hb
      have HBW := Lib.hid hbw
      have HM := Lib.hid hmem
      obtain ⟨la, hla⟩ : ∃ l, up[k].length = l := ⟨_, rfl⟩
      rw [hla] at h2 HOF
      clear h3 hnn hla hb hbw hmem
      go_wp2_with fail
      refine HOF.out.mono ?_
      rintro e w4 ⟨va, rfl, ⟨ps, ha⟩, hb4⟩
      have HD := Lib.hid (hasDot HP3.out HBR.out ha hb4 (HLEN.out _ HM.out) (HFR.out _ HM.out) HFX.out (HMM.out _ HM.out) rfl)
      have HB4 := Lib.hid hb4
      obtain ⟨o4, c4, rfl, _, _⟩ := ha.form
      have HS : 0 ≤ dotZ up[k] x → Hid ((up.take (k + 1)).all (fun r => decide (0 ≤ dotZ r x)) = true) := fun h => by
        show _ = true
        rw [List.take_succ_eq_append_getElem hk', all_snocJ, hsh.out]
        simpa using h
      have HX : ¬ 0 ≤ dotZ up[k] x → Hid (res = false) := fun h => by
        show res = false
        rw [← HR.out, hasB, Bool.and_eq_false_iff]
        exact .inl (List.all_eq_false.2 ⟨_, List.getElem_mem hk', by simpa using h⟩)
      generalize dotZ up[k] x = d at *
      clear ha hb4
      go_wp2_with fail
      refine HD.out.mono ?_
      rintro e w5 ⟨bd, Sd, rfl, hd, hSd, hb5⟩
      have HG := Lib.hid (sign_any bd d Sd w5 hd)
      have HB5 := Lib.hid (HB4.out.trans (hb5.mono HB4.out.size))
      clear hd hSd hb5 HD
      go_wp2_with fail
      refine HG.out.mono ?_
      rintro e w6 ⟨rfl, rfl⟩
      by_cases hd0 : 0 ≤ d
      · have HS' := HS hd0
        have hsg : decide (d.sign < 0) = false := by
          rcases (show d = 0 ∨ 0 < d by omega) with rfl | h
          · rfl
          · rw [Int.sign_eq_one_of_pos h]; rfl
        have HN := Lib.hid (HBR.out.trans (HB5.out.mono HBR.out.size))
        clear HS HX
        go_wp2_with fail
        go_roundw
        case rel => exact ⟨k + 1, by omega, by go_num, HS', HN.out⟩
        case measure => simp [intOf]; omega
      · have HX' := HX (by omega)
        have hsg : decide (d.sign < 0) = true := by
          rw [Int.sign_eq_neg_one_of_neg (show d < 0 by omega)]; rfl
        have HN := Lib.hid (HBW.out.trans (HB5.out.mono HBW.out.size))
        clear HS HX
        go_wp2_with fail
        go_ret2
        exact ⟨by rw [HX'.out]; rfl, HN.out⟩
    · obtain rfl : k = lu := by omega
      rw [List.take_of_length_le (by have := HLU.out; omega)] at hsh
      have hc2 : wr.cell? ⟨w.heap.size, 2, none⟩ = some (.slice ov lv cv) := (hb.cell (p := ⟨w.heap.size, 2, none⟩) hz3).trans HC.out
      have HBR := Lib.hid hb
      clear hb hbw
      go_wp2_with fail
      go_loopw [45] (fun i wr => ∃ k : Nat, k ≤ lv ∧ i = .int .i64 k ∧ Hid ((ev.take k).all (fun r => decide (dotZ r x = 0)) = true) ∧ Below w3.heap.size w3 wr) (fun i _ => lv - (intOf i).toNat)
      case atStart => exact ⟨0, Nat.zero_le _, rfl, rfl, HBR.out⟩
      case round =>
        obtain ⟨k, hk, rfl, hsh2, hb⟩ := hrel
        have hbw := HB3.out.trans (hb.mono HB3.out.size)
        by_cases hlt : k < lv
        · have hk' : k < ev.length := by have := HLV.out; omega
          have hmem : ev[k] ∈ up ++ ev := List.mem_append_right _ (List.getElem_mem hk')
          obtain ⟨b, off, cap', oa, ca, e1, hbl, h2, h3⟩ := (HV.out.below hbw (Nat.le_refl _)).get hk'
          simp only [Value.slice.injEq] at e1
          obtain ⟨rfl, hnn, rfl⟩ := e1
          have HOF := Lib.hid (HOR.out wr _ _ hmem h3)
          have HBR := Lib.hid hb
          have HBW := Lib.hid hbw
          have HM := Lib.hid hmem
          obtain ⟨la, hla⟩ : ∃ l, ev[k].length = l := ⟨_, rfl⟩
          rw [hla] at h2 HOF
          clear h3 hnn hla hb hbw hmem
          go_wp2_with fail
          refine HOF.out.mono ?_
          rintro e w4 ⟨va, rfl, ⟨ps, ha⟩, hb4⟩
          have HD := Lib.hid (hasDot HP3.out HBR.out ha hb4 (HLEN.out _ HM.out) (HFR.out _ HM.out) HFX.out (HMM.out _ HM.out) rfl)
          have HB4 := Lib.hid hb4
          obtain ⟨o4, c4, rfl, _, _⟩ := ha.form
          have HS : dotZ ev[k] x = 0 → Hid ((ev.take (k + 1)).all (fun r => decide (dotZ r x = 0)) = true) := fun h => by
            show _ = true
            rw [List.take_succ_eq_append_getElem hk', all_snocJ, hsh2.out]
            simpa using h
          have HX : ¬ dotZ ev[k] x = 0 → Hid (res = false) := fun h => by
            show res = false
            rw [← HR.out, hasB, Bool.and_eq_false_iff]
            exact .inr (List.all_eq_false.2 ⟨_, List.getElem_mem hk', by simpa using h⟩)
          generalize dotZ ev[k] x = d at *
          clear ha hb4
          go_wp2_with fail
          refine HD.out.mono ?_
          rintro e w5 ⟨bd, Sd, rfl, hd, hSd, hb5⟩
          have HG := Lib.hid (sign_any bd d Sd w5 hd)
          have HB5 := Lib.hid (HB4.out.trans (hb5.mono HB4.out.size))
          clear hd hSd hb5 HD
          go_wp2_with fail
          refine HG.out.mono ?_
          rintro e w6 ⟨rfl, rfl⟩
          by_cases hd0 : d = 0
          · have HS' := HS hd0
            have hsg : (d.sign != 0) = false := by subst hd0; rfl
            have HN := Lib.hid (HBR.out.trans (HB5.out.mono HBR.out.size))
            clear HS HX
            go_wp2_with fail
            go_roundw
            case rel => exact ⟨k + 1, by omega, by go_num, HS', HN.out⟩
            case measure => simp [intOf]; omega
          · have HX' := HX hd0
            have hsg : (d.sign != 0) = true := by simpa [Int.sign_eq_zero_iff_zero] using hd0
            have HN := Lib.hid (HBW.out.trans (HB5.out.mono HBW.out.size))
            clear HS HX
            go_wp2_with fail
            go_ret2
            exact ⟨by rw [HX'.out]; rfl, HN.out⟩
        · obtain rfl : k = lv := by omega
          rw [List.take_of_length_le (by have := HLV.out; omega)] at hsh2
          have HX : Hid (res = true) := by
            show res = true
            rw [← HR.out, hasB, hsh.out, hsh2.out]
            rfl
          have HN := Lib.hid hbw
          clear hb hbw
          go_wp2_with fail
          go_ret2
          exact ⟨by rw [HX.out]; rfl, HN.out⟩

theorem has_any (vu ve vx : Value) (dim : Int) (up ev : List (List Int)) (x : List Int) (a : Nat → Addr) (w : World) (he : ErrW w a) (hu : MatAt w vu up) (hv : MatAt w ve ev) (hx : SliceI w vx x) (hlu : up.length ≤ 1000) (hle : ev.length ≤ 1000) (hM : ∀ r ∈ up ++ ev, r.length ≤ 1000000) (hlx : x.length ≤ 1000000) :
    Calls Tryz.prog 8 #[.agg #[.int .i64 dim, vu, ve], vx] w fun e w' => e = .returned (.tuple #[.bool (decide (hasErr dim up ev x = 0) && hasB up ev x), errJ a (hasErr dim up ev x)]) ∧ Below w.heap.size w w' := by
  unfold hasErr
  by_cases h : coneErr dim (up ++ ev) = 0
  · rw [if_neg (by simpa using h)]
    by_cases hs : (x.length : Int) = dim
    · have hs' : ((x.length : Int) != dim) = false := by simpa using hs
      rw [if_neg (by simpa using hs)]
      by_cases hl : largeB x = true
      · rw [if_pos hl]
        exact has_err3 vu ve vx dim up ev x a w he hu hv hx hlu hle hM h hs' hlx hl
      · rw [if_neg hl]
        have := has_in vu ve vx dim up ev x a w he hu hv hx hlu hle hM h hs' hlx (by simpa using hl)
        simpa [errJ] using this
    · have hs' : ((x.length : Int) != dim) = true := by simpa using hs
      rw [if_pos (by simpa using hs)]
      exact has_err2 vu ve vx dim up ev x a w he hu hv hx hlu hle hM h hs'
  · rw [if_pos h]
    have := has_err1 vu ve vx dim up ev x a w he hu hv hx hlu hle hM h
    rw [decide_eq_false h, Bool.false_and]
    exact this
end Go.Proofs.YtggoncneinlpgaaGreatDoor
