/- Walk of plain.Code: at nil, at an error of errors.New's make, at a place error. Walks of the law's coded: at nil, at a sentinel. -/
import Derived.Test.YtggoncneinlpgaaGreatDoorE2
import Derived.Deep.QuietTactic
import Derived.Lib.Hide
namespace Go.Proofs.YtggoncneinlpgaaGreatDoor
open Go Go.RowKit Go.Extern.Stop Go.Stop Go.Extern

/-- The number that plain.Code tells of the i-th sentinel (from 8 on: none of them). -/
def codeZ (i : Nat) : Int := if i < 8 then (i : Int) + 1 else -1

theorem code_nil (w : World) : Calls Tryz.prog 21 #[.nilIface] w fun e w' => e = .returned (.tuple #[.int .i64 0, .int .i64 (-1)]) ∧ w' = w := by
  go_enter Tryz.func21, Tryz.ntmps21
  go_wp2_with fail
  go_ret2
  exact ⟨rfl, rfl⟩

/-- The i-th sentinel's value. -/
def sentV (a : Nat → Addr) (i : Nat) : Value := .iface 345 (.pointer (some (a i)))

set_option maxRecDepth 100000 in
set_option maxHeartbeats 4000000 in
theorem code_sent (x : Addr) (i : Nat) (_hi : i ≤ 8) (a : Nat → Addr) (w : World) (he : ErrW w a) (heq : i < 8 → x = a i) (hne : ∀ k, k < 8 → k ≠ i → x ≠ a k) (hx : ∃ c t, w.heap[x.block]? = some (.cells c t (0, 0))) :
    Calls Tryz.prog 21 #[.iface 345 (.pointer (some x))] w fun e w' => e = .returned (.tuple #[.int .i64 (codeZ i), .int .i64 (-1)]) ∧ Below w.heap.size w w' := by
  have HE := Lib.hid he
  have HX := Lib.hid hx
  have HEQ := Lib.hid heq
  have HNE := Lib.hid hne
  have hb0 : Below w.heap.size w (w.alloc (.cells #[.pointer none] 64)) := (Below.refl _ _).alloc (Nat.le_refl _) _
  have he1 := (HE.out.below hb0 (Nat.le_refl _)).et
  clear he hx heq hne
  go_enter Tryz.func21, Tryz.ntmps21
  go_wp2_with fail
  refine (as_miss x ⟨w.heap.size, 0, none⟩ _ he1).mono ?_
  rintro e w1 ⟨rfl, hb1⟩
  have hb01 := hb0.trans (hb1.mono (by simp))
  have hw1 : ErrW w1 a := HE.out.below hb01 (Nat.le_refl _)
  have g0 : w1.cell? ⟨2, 0, none⟩ = some (.iface 345 (.pointer (some (a 0)))) := hw1.var 0 (by decide)
  have g1 : w1.cell? ⟨1, 0, none⟩ = some (.iface 345 (.pointer (some (a 1)))) := hw1.var 1 (by decide)
  have g2 : w1.cell? ⟨0, 0, none⟩ = some (.iface 345 (.pointer (some (a 2)))) := hw1.var 2 (by decide)
  have g3 : w1.cell? ⟨3, 0, none⟩ = some (.iface 345 (.pointer (some (a 3)))) := hw1.var 3 (by decide)
  have g4 : w1.cell? ⟨4, 0, none⟩ = some (.iface 345 (.pointer (some (a 4)))) := hw1.var 4 (by decide)
  have g5 : w1.cell? ⟨5, 0, none⟩ = some (.iface 345 (.pointer (some (a 5)))) := hw1.var 5 (by decide)
  have g6 : w1.cell? ⟨6, 0, none⟩ = some (.iface 345 (.pointer (some (a 6)))) := hw1.var 6 (by decide)
  have g7 : w1.cell? ⟨7, 0, none⟩ = some (.iface 345 (.pointer (some (a 7)))) := hw1.var 7 (by decide)
  have HW1 := Lib.hid hw1
  have hbW : Below w.heap.size w (w1.alloc (.cells #[.iface 345 (.pointer (some (a 0))), .iface 345 (.pointer (some (a 1))), .iface 345 (.pointer (some (a 2))), .iface 345 (.pointer (some (a 3))), .iface 345 (.pointer (some (a 4))), .iface 345 (.pointer (some (a 5))), .iface 345 (.pointer (some (a 6))), .iface 345 (.pointer (some (a 7)))] 29)) := hb01.alloc hb01.size _
  have HBW := Lib.hid hbW
  have HCELL : Hid (∀ k, k < 8 → (w1.alloc (.cells #[.iface 345 (.pointer (some (a 0))), .iface 345 (.pointer (some (a 1))), .iface 345 (.pointer (some (a 2))), .iface 345 (.pointer (some (a 3))), .iface 345 (.pointer (some (a 4))), .iface 345 (.pointer (some (a 5))), .iface 345 (.pointer (some (a 6))), .iface 345 (.pointer (some (a 7)))] 29)).cell? ⟨w1.heap.size, k, none⟩ = some (.iface 345 (.pointer (some (a k))))) := by
    intro k hk
    rw [World.cell?_alloc_at _ _ _ _ rfl]
    match k, hk with
    | 0, _ => rfl
    | 1, _ => rfl
    | 2, _ => rfl
    | 3, _ => rfl
    | 4, _ => rfl
    | 5, _ => rfl
    | 6, _ => rfl
    | 7, _ => rfl
  clear hw1 he1 hb0 hb1
  go_wp2_with fail
  clear g0 g1 g2 g3 g4 g5 g6 g7
  go_loop [3, 26] (fun t s => ∃ k : Nat, k ≤ 8 ∧ k ≤ i ∧ t = .int .i64 (-1) ∧ s = .int .i64 k) (fun _ s => 8 - (intOf s).toNat)
  case atStart => exact ⟨0, Nat.zero_le _, Nat.zero_le _, rfl, rfl⟩
  case round =>
    obtain ⟨k, hk, hki, rfl, rfl⟩ := hrel
    by_cases h8 : k < 8
    · have hcell := HCELL.out k h8
      by_cases e : k = i
      · subst e
        obtain rfl := HEQ.out h8
        have HC := Lib.hid (show codeZ k = (k : Int) + 1 by unfold codeZ; rw [if_pos h8])
        go_wp2_with fail
        refine (is_same _ _).mono ?_
        rintro e w2 ⟨rfl, rfl⟩
        go_wp2_with fail
        go_ret2
        exact ⟨by rw [HC.out]; rfl, HBW.out⟩
      · have hn := HNE.out k h8 e
        obtain ⟨cx, tx, hxb⟩ := HX.out
        obtain ⟨ck, tk, hkb⟩ := (HW1.out.below (B := w1.heap.size) ((Below.refl _ _).alloc (Nat.le_refl _) (.cells #[.iface 345 (.pointer (some (a 0))), .iface 345 (.pointer (some (a 1))), .iface 345 (.pointer (some (a 2))), .iface 345 (.pointer (some (a 3))), .iface 345 (.pointer (some (a 4))), .iface 345 (.pointer (some (a 5))), .iface 345 (.pointer (some (a 6))), .iface 345 (.pointer (some (a 7)))] 29)) (Nat.le_refl _)).blk k h8
        have hxb' := (HBW.out.block _ (heap_lt hxb)).trans hxb
        have HI := Lib.hid (is_other x (a k) _ _ _ _ _ hn hxb' hkb)
        clear hxb hkb hxb' hn
        go_wp2_with fail
        refine HI.out.mono ?_
        rintro e w2 ⟨rfl, rfl⟩
        go_wp2_with fail
        go_round
        case rel => exact ⟨k + 1, by omega, by omega, rfl, by go_num⟩
        case measure => simp [intOf]; omega
    · obtain rfl : k = 8 := by omega
      obtain rfl : i = 8 := by omega
      go_wp2_with fail
      go_ret2
      exact ⟨rfl, HBW.out⟩
set_option maxRecDepth 100000 in
set_option maxHeartbeats 4000000 in
theorem code_fault (pb : Nat) (n : Int) (i : Nat) (_hi : i < 8) (a : Nat → Addr) (w : World) (he : ErrW w a) (h0 : w.cell? ⟨pb, 0, none⟩ = some (.int .i64 n)) (h1 : w.cell? ⟨pb, 1, none⟩ = some (sentV a i)) :
    Calls Tryz.prog 21 #[.iface 64 (.pointer (some ⟨pb, 0, none⟩))] w fun e w' => e = .returned (.tuple #[.int .i64 (codeZ i), .int .i64 n]) ∧ Below w.heap.size w w' := by
  unfold sentV at h1
  have HE := Lib.hid he
  have H1 := Lib.hid h1
  have H0 := Lib.hid h0
  have hb0 : Below w.heap.size w (w.alloc (.cells #[.pointer none] 64)) := (Below.refl _ _).alloc (Nat.le_refl _) _
  have he1 := (HE.out.below hb0 (Nat.le_refl _)).et
  have hc0 : (w.alloc (.cells #[.pointer none] 64)).cell? ⟨w.heap.size, 0, none⟩ = some (.pointer none) := by simp
  have hf0 : (w.alloc (.cells #[.pointer none] 64)).frozen? ⟨w.heap.size, 0, none⟩ = false := by simp
  have HA := Lib.hid (as_hit ⟨pb, 0, none⟩ ⟨w.heap.size, 0, none⟩ (.pointer none) _ he1 hc0 hf0)
  clear he h0 h1 hc0 hf0 he1
  go_enter Tryz.func21, Tryz.ntmps21
  go_wp2_with fail
  refine HA.out.mono ?_
  rintro e w1 ⟨rfl, w0, rfl, hb1⟩
  have hb00 := hb0.trans (hb1.mono (by simp))
  have hcf : w0.cell? ⟨w.heap.size, 0, none⟩ = some (.pointer none) := (hb1.cell (p := ⟨w.heap.size, 0, none⟩) (by simp)).trans (by simp)
  obtain ⟨w1, hw1e⟩ : ∃ w1, w0.setCell ⟨w.heap.size, 0, none⟩ (.pointer (some ⟨pb, 0, none⟩)) = w1 := ⟨_, rfl⟩
  have hb01 : Below w.heap.size w w1 := by
    rw [← hw1e]
    exact Below.setCell (p := ⟨w.heap.size, 0, none⟩) hb00 (Nat.le_refl _) _
  have hc4 : w1.cell? ⟨w.heap.size, 0, none⟩ = some (.pointer (some ⟨pb, 0, none⟩)) := by
    rw [← hw1e]; exact World.cell?_setCell_same _ _ _ hcf
  have hcn : w1.cell? ⟨pb, 0, none⟩ = some (.int .i64 n) := (hb01.cell (p := ⟨pb, 0, none⟩) (cell_lt H0.out)).trans H0.out
  have HC1 := Lib.hid ((hb01.cell (p := ⟨pb, 1, none⟩) (cell_lt H1.out)).trans H1.out)
  rw [hw1e]
  clear hw1e hcf hb00
  have hw1 : ErrW w1 a := HE.out.below hb01 (Nat.le_refl _)
  have g0 : w1.cell? ⟨2, 0, none⟩ = some (.iface 345 (.pointer (some (a 0)))) := hw1.var 0 (by decide)
  have g1 : w1.cell? ⟨1, 0, none⟩ = some (.iface 345 (.pointer (some (a 1)))) := hw1.var 1 (by decide)
  have g2 : w1.cell? ⟨0, 0, none⟩ = some (.iface 345 (.pointer (some (a 2)))) := hw1.var 2 (by decide)
  have g3 : w1.cell? ⟨3, 0, none⟩ = some (.iface 345 (.pointer (some (a 3)))) := hw1.var 3 (by decide)
  have g4 : w1.cell? ⟨4, 0, none⟩ = some (.iface 345 (.pointer (some (a 4)))) := hw1.var 4 (by decide)
  have g5 : w1.cell? ⟨5, 0, none⟩ = some (.iface 345 (.pointer (some (a 5)))) := hw1.var 5 (by decide)
  have g6 : w1.cell? ⟨6, 0, none⟩ = some (.iface 345 (.pointer (some (a 6)))) := hw1.var 6 (by decide)
  have g7 : w1.cell? ⟨7, 0, none⟩ = some (.iface 345 (.pointer (some (a 7)))) := hw1.var 7 (by decide)
  have HW1 := Lib.hid hw1
  have hbW : Below w.heap.size w (w1.alloc (.cells #[.iface 345 (.pointer (some (a 0))), .iface 345 (.pointer (some (a 1))), .iface 345 (.pointer (some (a 2))), .iface 345 (.pointer (some (a 3))), .iface 345 (.pointer (some (a 4))), .iface 345 (.pointer (some (a 5))), .iface 345 (.pointer (some (a 6))), .iface 345 (.pointer (some (a 7)))] 29)) := hb01.alloc hb01.size _
  have HBW := Lib.hid hbW
  have HCELL : Hid (∀ k, k < 8 → (w1.alloc (.cells #[.iface 345 (.pointer (some (a 0))), .iface 345 (.pointer (some (a 1))), .iface 345 (.pointer (some (a 2))), .iface 345 (.pointer (some (a 3))), .iface 345 (.pointer (some (a 4))), .iface 345 (.pointer (some (a 5))), .iface 345 (.pointer (some (a 6))), .iface 345 (.pointer (some (a 7)))] 29)).cell? ⟨w1.heap.size, k, none⟩ = some (.iface 345 (.pointer (some (a k))))) := by
    intro k hk
    rw [World.cell?_alloc_at _ _ _ _ rfl]
    match k, hk with
    | 0, _ => rfl
    | 1, _ => rfl
    | 2, _ => rfl
    | 3, _ => rfl
    | 4, _ => rfl
    | 5, _ => rfl
    | 6, _ => rfl
    | 7, _ => rfl
  clear hw1 hb0 hb1
  go_wp2_with fail
  clear g0 g1 g2 g3 g4 g5 g6 g7 hc4 hcn
  go_loop [3, 26] (fun t s => ∃ k : Nat, k ≤ 8 ∧ k ≤ i ∧ t = .int .i64 n ∧ s = .int .i64 k) (fun _ s => 8 - (intOf s).toNat)
  case atStart => exact ⟨0, Nat.zero_le _, Nat.zero_le _, rfl, rfl⟩
  case round =>
    obtain ⟨k, hk, hki, rfl, rfl⟩ := hrel
    by_cases h8 : k < 8
    · have hcell := HCELL.out k h8
      by_cases e : k = i
      · subst e
        have HS := Lib.hid (is_fault_same pb (a k) _ (cell_below ((Below.refl _ _).alloc (Nat.le_refl _) (.cells #[.iface 345 (.pointer (some (a 0))), .iface 345 (.pointer (some (a 1))), .iface 345 (.pointer (some (a 2))), .iface 345 (.pointer (some (a 3))), .iface 345 (.pointer (some (a 4))), .iface 345 (.pointer (some (a 5))), .iface 345 (.pointer (some (a 6))), .iface 345 (.pointer (some (a 7)))] 29)) (Nat.le_refl w1.heap.size) HC1.out))
        have HC := Lib.hid (show codeZ k = (k : Int) + 1 by unfold codeZ; rw [if_pos h8])
        go_wp2_with fail
        refine HS.out.mono ?_
        rintro e w2 ⟨rfl, rfl⟩
        go_wp2_with fail
        go_ret2
        exact ⟨by rw [HC.out]; rfl, HBW.out⟩
      · have hb9 : Below w1.heap.size w1 (w1.alloc (.cells #[.iface 345 (.pointer (some (a 0))), .iface 345 (.pointer (some (a 1))), .iface 345 (.pointer (some (a 2))), .iface 345 (.pointer (some (a 3))), .iface 345 (.pointer (some (a 4))), .iface 345 (.pointer (some (a 5))), .iface 345 (.pointer (some (a 6))), .iface 345 (.pointer (some (a 7)))] 29)) := (Below.refl _ _).alloc (Nat.le_refl _) _
        have hw9 := HW1.out.below hb9 (Nat.le_refl _)
        obtain ⟨ck, tk, hkb⟩ := hw9.blk k h8
        obtain ⟨cx, tx, hxb⟩ := hw9.blk i _hi
        have HI := Lib.hid (is_fault_other pb (a k) (a i) _ _ _ _ _ (cell_below hb9 (Nat.le_refl _) HC1.out) (hw9.ne i k _hi h8 (fun h => e h.symm)) hxb hkb)
        clear hxb hkb hb9 hw9
        go_wp2_with fail
        refine HI.out.mono ?_
        rintro e w2 ⟨rfl, rfl⟩
        go_wp2_with fail
        go_round
        case rel => exact ⟨k + 1, by omega, by omega, rfl, by go_num⟩
        case measure => simp [intOf]; omega
    · omega
end Go.Proofs.YtggoncneinlpgaaGreatDoor
namespace Go.Proofs.YtggoncneinlpgaaGreatDoor
open Go Go.RowKit

set_option maxRecDepth 100000 in
set_option maxHeartbeats 1000000 in
theorem coded_nil (d : Int) (w : World) : Calls Tryz.prog 11 #[.nilIface, .int .i64 d] w fun e w' => e = .returned (.bool (decide (0 = d))) ∧ w' = w := by
  by_cases hd : 0 = d
  · subst hd
    go_enter Tryz.func11, Tryz.ntmps11
    go_wp2_with fail
    refine (code_nil _).mono ?_
    rintro e w1 ⟨rfl, rfl⟩
    go_wp2_with fail
    go_ret
    exact ⟨rfl, rfl⟩
  · have hb : ((0 : Int) == d) = false := by simpa using hd
    have HR := Lib.hid (show decide (0 = d) = false by simpa using hd)
    clear hd
    go_enter Tryz.func11, Tryz.ntmps11
    go_wp2_with fail
    refine (code_nil _).mono ?_
    rintro e w1 ⟨rfl, rfl⟩
    go_wp2_with fail
    go_ret
    exact ⟨by rw [HR.out]; rfl, rfl⟩

set_option maxRecDepth 100000 in
set_option maxHeartbeats 1000000 in
theorem coded_sent (x : Addr) (i : Nat) (hi : i ≤ 8) (a : Nat → Addr) (d : Int) (w : World) (he : ErrW w a) (heq : i < 8 → x = a i) (hne : ∀ k, k < 8 → k ≠ i → x ≠ a k) (hx : ∃ c t, w.heap[x.block]? = some (.cells c t (0, 0))) :
    Calls Tryz.prog 11 #[.iface 345 (.pointer (some x)), .int .i64 d] w fun e w' => e = .returned (.bool (decide (codeZ i = d))) ∧ Below w.heap.size w w' := by
  have HC := Lib.hid (code_sent x i hi a w he heq hne hx)
  clear he heq hne hx hi
  obtain ⟨c, hc⟩ : ∃ c, codeZ i = c := ⟨_, rfl⟩
  rw [hc] at HC ⊢
  clear hc
  by_cases hd : c = d
  · subst hd
    go_enter Tryz.func11, Tryz.ntmps11
    go_wp2_with fail
    refine HC.out.mono ?_
    rintro e w1 ⟨rfl, hb1⟩
    go_wp2_with fail
    go_ret
    exact ⟨by simp, hb1⟩
  · have hb : (c == d) = false := by simpa using hd
    have HR := Lib.hid (show decide (c = d) = false by simpa using hd)
    clear hd
    go_enter Tryz.func11, Tryz.ntmps11
    go_wp2_with fail
    refine HC.out.mono ?_
    rintro e w1 ⟨rfl, hb1⟩
    go_wp2_with fail
    go_ret
    exact ⟨by rw [HR.out]; rfl, hb1⟩

theorem ErrW.drew {w : World} {a : Nat → Addr} (h : ErrW w a) : ErrW w.drew a := ⟨h.et, h.var, h.str, h.blk, h.ne⟩
theorem ErrW.drewN {w : World} {a : Nat → Addr} (h : ErrW w a) (n : Nat) : ErrW (w.drewN n) a := ⟨h.et, h.var, h.str, h.blk, h.ne⟩

/-- At the i-th sentinel. -/
theorem coded_err (i : Nat) (hi : i < 8) (a : Nat → Addr) (d : Int) (w : World) (he : ErrW w a) :
    Calls Tryz.prog 11 #[sentV a i, .int .i64 d] w fun e w' => e = .returned (.bool (decide ((i : Int) + 1 = d))) ∧ Below w.heap.size w w' := by
  have h := coded_sent (a i) i (by omega) a d w he (fun _ => rfl) (fun k hk hne => he.ne i k hi hk (fun e => hne e.symm)) (he.blk i hi)
  unfold codeZ at h
  rw [if_pos hi] at h
  exact h
end Go.Proofs.YtggoncneinlpgaaGreatDoor
