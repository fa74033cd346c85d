/- Walks for the law Names: SameInts, coded, the law. -/
import Derived.Test.YthceokdanphmlaaDoorE4
import Derived.BigQuiet
import Derived.Deep.RegionWith
import Derived.Deep.DeepCutAuto
import Derived.Deep.RegionHeld3
import Derived.Laws.World
namespace Go.Proofs.YthceokdanphmlaaDoor
open Go Go.RowKit

theorem below_drewN' {B : Nat} {a w : World} (h : Below B a w) (n : Nat) : Below B a (w.drewN n) := ⟨h.os, h.tape, h.output, h.size, h.block⟩

/-! ### Slices of integers -/
/-- The slice value v holds the integers zs. -/
def SliceI (w : World) (v : Value) (zs : List Int) : Prop :=
  ∃ o cap, v = .slice o zs.length cap ∧ (zs ≠ [] → ∃ b off, o = some ⟨b, off, none⟩ ∧ b < w.heap.size ∧ ∀ i (h : i < zs.length), w.cell? ⟨b, off + i, none⟩ = some (.int .i64 zs[i]))

theorem SliceI.below {w w' : World} {v : Value} {zs : List Int} (h : SliceI w v zs) {B1 : Nat} (hb : Below B1 w w') (hB : w.heap.size ≤ B1) : SliceI w' v zs := by
  obtain ⟨o, cap, rfl, h⟩ := h
  refine ⟨o, cap, rfl, fun hne => ?_⟩
  obtain ⟨b, off, rfl, hlt, hc⟩ := h hne
  exact ⟨b, off, rfl, Nat.lt_of_lt_of_le hlt hb.size, fun i hi => (hb.cell (p := ⟨b, off + i, none⟩) (by simp; omega)).trans (hc i hi)⟩
/-- All of them are int64s. -/
def I64 (zs : List Int) : Prop := ∀ z ∈ zs, -9223372036854775808 ≤ z ∧ z ≤ 9223372036854775807
theorem I64.get {zs : List Int} (h : I64 zs) (i : Nat) (hi : i < zs.length) : -9223372036854775808 ≤ zs[i] ∧ zs[i] ≤ 9223372036854775807 := h _ (List.getElem_mem hi)

set_option maxRecDepth 100000 in
set_option maxHeartbeats 1000000 in
theorem rsame_any (v u : Value) (xs ys : List Int) (w : World) (hv : SliceI w v xs) (hu : SliceI w u ys) (hl : xs.length ≤ 1000000) :
    Calls Tryd.prog 4 #[v, u] w fun e w' => e = .returned (.bool (decide (xs = ys))) ∧ ∃ q, w' = w.drewN q := by
  obtain ⟨o, cap, rfl, hc⟩ := hv
  obtain ⟨o', cap', rfl, hc'⟩ := hu
  by_cases hlen : xs.length = ys.length
  · obtain ⟨n, hn⟩ : ∃ n, xs.length = n := ⟨_, rfl⟩
    rw [← hlen, hn]
    rw [hn] at hl hlen
    have HN := Lib.hid hn
    have HN' := Lib.hid hlen
    have HC := Lib.hid hc
    have HC' := Lib.hid hc'
    clear hn hc hlen hc'
    go_enter Tryd.func4, Tryd.ntmps4
    go_wp2
    go_loopw [5] (fun i wr => ∃ k q : Nat, k ≤ n ∧ i = .int .i64 k ∧ Hid (∀ j (h : j < xs.length) (h' : j < ys.length), j < k → xs[j] = ys[j]) ∧ wr = w.drewN q) (fun i _ => n - (intOf i).toNat)
    case atStart => exact ⟨0, 0, Nat.zero_le _, rfl, fun j _ _ h => by omega, rfl⟩
    case round =>
      obtain ⟨k, q, hk, rfl, hf, rfl⟩ := hrel
      by_cases hlt : k < n
      · have hkx : k < xs.length := by have := HN.out; omega
        have hky : k < ys.length := by have := HN'.out; omega
        obtain ⟨b, off, rfl, hbl, hcs⟩ := HC.out (by intro e; rw [e] at hkx; simp at hkx)
        obtain ⟨b', off', rfl, hbl', hcs'⟩ := HC'.out (by intro e; rw [e] at hky; simp at hky)
        have hcell : w.cell? ⟨b, off + k, none⟩ = some (.int .i64 xs[k]) := hcs k hkx
        have hcell' : w.cell? ⟨b', off' + k, none⟩ = some (.int .i64 ys[k]) := hcs' k hky
        obtain ⟨x, hx⟩ : ∃ x, xs[k] = x := ⟨_, rfl⟩
        obtain ⟨y, hy⟩ : ∃ y, ys[k] = y := ⟨_, rfl⟩
        rw [hx] at hcell
        rw [hy] at hcell'
        have HX := Lib.hid hx
        have HY := Lib.hid hy
        clear hx hy hcs hcs'
        by_cases hxy : x = y
        · subst hxy
          go_wp2_with fail
          go_quiet (fail)
          go_wp2
          go_roundw
          case rel =>
            refine ⟨k + 1, _, by omega, by go_num, fun j h h' hj => ?_, by rfl⟩
            by_cases e : j = k
            · subst e; rw [HX.out, HY.out]
            · exact hf.out j h h' (by omega)
          case measure => simp [intOf]; omega
        · have hne : (x != y) = true := by simpa using hxy
          have HR := Lib.hid (show decide (xs = ys) = false by
            simp only [decide_eq_false_iff_not]
            intro e
            subst e
            exact hxy (HX.out.symm.trans HY.out))
          clear hxy
          go_wp2_with fail
          go_quiet (fail)
          go_wp2
          go_ret
          exact ⟨by rw [HR.out]; rfl, _, by simp only [World.drewN_drewN]; rfl⟩
      · obtain rfl : k = n := by omega
        have HR := Lib.hid (show decide (xs = ys) = true by
          simp only [decide_eq_true_eq]
          have h1 := HN.out
          have h2 := HN'.out
          exact List.ext_getElem (by omega) fun j h h' => hf.out j h h' (by omega))
        go_wp2
        go_ret
        exact ⟨by rw [HR.out]; rfl, _, rfl⟩
  · have HR := Lib.hid (show decide (xs = ys) = false by
      simp only [decide_eq_false_iff_not]
      intro e
      exact hlen (congrArg _ e))
    have hne : ((xs.length : Int) != (ys.length : Int)) = true := by simp; omega
    clear hc hc' hlen
    generalize xs.length = m at *
    generalize ys.length = n at *
    go_enter Tryd.func4, Tryd.ntmps4
    go_wp2
    go_ret
    exact ⟨by rw [HR.out]; rfl, 0, rfl⟩



theorem string_of {s t : ByteArray} (h : s.data.toList = t.data.toList) : s = t := by
  cases s; cases t
  simp only [ByteArray.mk.injEq]
  exact Array.toList_inj.1 h

theorem serror_any (p : Addr) (s : ByteArray) (w : World) (h : w.cell? p = some (.string s)) : Calls Tryd.prog 37 #[.pointer (some p)] w fun e w' => e = .returned (.string s) ∧ w' = w := by
  go_enter Tryd.func37, Tryd.ntmps37
  go_wp2_with fail
  go_ret
  exact ⟨rfl, rfl⟩

theorem sliceI_lit {w : World} {b cap : Nat} {cs : Array Value} {t : TypeId} {zs : List Int} (h : w.heap[b]? = some (.cells cs t (0, 0))) (hc : cs.toList = zs.map (Value.int .i64)) : SliceI w (.slice (some ⟨b, 0, none⟩) zs.length cap) zs :=
  ⟨_, cap, rfl, fun _ => ⟨b, 0, rfl, heap_lt h, fun i hi => by
    have e : cs[i]? = some (.int .i64 zs[i]) := by
      rw [← Array.getElem?_toList, hc, List.getElem?_map, List.getElem?_eq_getElem hi]; rfl
    simp [World.cell?, h, e]⟩⟩

def namesZ : List Int := [2147483648, 4611686018427387904, 5, 24, 60, 4, 1099511627776, 1048576, 1099511627776, 16, 12, 8, 4000, 12, 120, 20000, 40, 6, 200, 16]

def litE (a : Nat → Addr) : Array Value := #[.iface 40 (.pointer (some (a 0))), .iface 40 (.pointer (some (a 1))), .iface 40 (.pointer (some (a 2))), .iface 40 (.pointer (some (a 3))), .iface 40 (.pointer (some (a 4))), .iface 40 (.pointer (some (a 5))), .iface 40 (.pointer (some (a 6))), .iface 40 (.pointer (some (a 7)))]
def litT : Array Value := #[.string { data := #[116, 101, 120, 116] }, .string { data := #[98, 111, 117, 110, 100] }, .string { data := #[115, 104, 97, 112, 101] }, .string { data := #[101, 109, 112, 116, 121] }, .string { data := #[110, 97, 109, 101] }, .string { data := #[110, 111, 110, 101] }, .string { data := #[111, 114, 100, 101, 114] }, .string { data := #[112, 114, 111, 111, 102] }]
def ttL : List ByteArray := [{ data := #[116, 101, 120, 116] }, { data := #[98, 111, 117, 110, 100] }, { data := #[115, 104, 97, 112, 101] }, { data := #[101, 109, 112, 116, 121] }, { data := #[110, 97, 109, 101] }, { data := #[110, 111, 110, 101] }, { data := #[111, 114, 100, 101, 114] }, { data := #[112, 114, 111, 111, 102] }]
def tt (i : Nat) : ByteArray := ttL.getD i default
def pfx : ByteArray := { data := #[114, 97, 121, 99, 111, 110, 101, 58, 32] }
theorem tt_eq : ∀ i, i < 8 → (pfx ++ tt i).data.toList = etx i := by
  intro i hi
  match i, hi with
  | 0, _ => rfl
  | 1, _ => rfl
  | 2, _ => rfl
  | 3, _ => rfl
  | 4, _ => rfl
  | 5, _ => rfl
  | 6, _ => rfl
  | 7, _ => rfl
theorem litE_at (a : Nat → Addr) : ∀ i, i < 8 → (litE a)[i]? = some (.iface 40 (.pointer (some (a i)))) := by
  intro i hi
  match i, hi with
  | 0, _ => rfl
  | 1, _ => rfl
  | 2, _ => rfl
  | 3, _ => rfl
  | 4, _ => rfl
  | 5, _ => rfl
  | 6, _ => rfl
  | 7, _ => rfl
theorem litT_at : ∀ i, i < 8 → litT[i]? = some (.string (tt i)) := by
  intro i hi
  match i, hi with
  | 0, _ => rfl
  | 1, _ => rfl
  | 2, _ => rfl
  | 3, _ => rfl
  | 4, _ => rfl
  | 5, _ => rfl
  | 6, _ => rfl
  | 7, _ => rfl
def litN : Array Value := #[.int .i64 2147483648, .int .i64 4611686018427387904, .int .i64 5, .int .i64 24, .int .i64 60, .int .i64 4, .int .i64 1099511627776, .int .i64 1048576, .int .i64 1099511627776, .int .i64 16, .int .i64 12, .int .i64 8, .int .i64 4000, .int .i64 12, .int .i64 120, .int .i64 20000, .int .i64 40, .int .i64 6, .int .i64 200, .int .i64 16]
theorem heap_new (w : World) (o : Obj) : (w.alloc o).heap[w.heap.size]? = some o := by
  show (w.heap.push _)[w.heap.size]? = _
  simp
theorem two_new (w : World) (o1 o2 : Obj) : ((w.alloc o1).alloc o2).heap[w.heap.size]? = some o1 ∧ ((w.alloc o1).alloc o2).heap[w.heap.size + 1]? = some o2 := by
  constructor
  · exact (Below.heap_alloc (w.alloc o1) o2 w.heap.size (by simp)).trans (heap_new _ _)
  · have h := heap_new (w.alloc o1) o2
    simpa using h

def anb : ByteArray := { data := #[97, 110, 111, 116, 104, 101, 114, 32, 111, 110, 101] }
theorem enew_any (s : ByteArray) (w : World) : Calls Tryd.prog 7 #[.string s] w fun e w' => e = .returned (.iface 40 (.pointer (some ⟨w.heap.size, 0, none⟩))) ∧ w' = w.alloc (.cells #[.string s] 42) := by
  go_enter Tryd.func7, Tryd.ntmps7
  go_wp2_with fail
  go_ret
  exact ⟨rfl, rfl⟩
theorem sNilAhead (a : Addr) (w : World) : (nilAhead 207 40 (.pointer (some a)) "Error").run Tryd.prog w = .ok (some false) w := by kernel_rfl
theorem sMethod (a : Addr) (w : World) : (method 207 40 (.pointer (some a)) "Error").run Tryd.prog w = .ok (37, .pointer (some a)) w := by kernel_rfl
theorem run_neq_same (s : ByteArray) (w : World) : (binOp .neq 9 (.string s) (.string s)).run Tryd.prog w = .ok (.bool false) w := by
  simp [go_sem]
theorem run_cat0 (w : World) : (binOp .add 9 (.string pfx) (.string (tt 0))).run Tryd.prog w = .ok (.string (pfx ++ tt 0)) w := by kernel_rfl
theorem run_cat1 (w : World) : (binOp .add 9 (.string pfx) (.string (tt 1))).run Tryd.prog w = .ok (.string (pfx ++ tt 1)) w := by kernel_rfl
theorem run_cat2 (w : World) : (binOp .add 9 (.string pfx) (.string (tt 2))).run Tryd.prog w = .ok (.string (pfx ++ tt 2)) w := by kernel_rfl
theorem run_cat3 (w : World) : (binOp .add 9 (.string pfx) (.string (tt 3))).run Tryd.prog w = .ok (.string (pfx ++ tt 3)) w := by kernel_rfl
theorem run_cat4 (w : World) : (binOp .add 9 (.string pfx) (.string (tt 4))).run Tryd.prog w = .ok (.string (pfx ++ tt 4)) w := by kernel_rfl
theorem run_cat5 (w : World) : (binOp .add 9 (.string pfx) (.string (tt 5))).run Tryd.prog w = .ok (.string (pfx ++ tt 5)) w := by kernel_rfl
theorem run_cat6 (w : World) : (binOp .add 9 (.string pfx) (.string (tt 6))).run Tryd.prog w = .ok (.string (pfx ++ tt 6)) w := by kernel_rfl
theorem run_cat7 (w : World) : (binOp .add 9 (.string pfx) (.string (tt 7))).run Tryd.prog w = .ok (.string (pfx ++ tt 7)) w := by kernel_rfl
theorem run_cat (k : Nat) (h8 : k < 8) (w : World) : (binOp .add 9 (.string pfx) (.string (tt k))).run Tryd.prog w = .ok (.string (pfx ++ tt k)) w := by
  match k, h8 with
  | 0, _ => exact run_cat0 w
  | 1, _ => exact run_cat1 w
  | 2, _ => exact run_cat2 w
  | 3, _ => exact run_cat3 w
  | 4, _ => exact run_cat4 w
  | 5, _ => exact run_cat5 w
  | 6, _ => exact run_cat6 w
  | 7, _ => exact run_cat7 w

set_option maxRecDepth 100000 in
set_option maxHeartbeats 1000000 in
theorem law_names (a : Nat → Addr) (w : World) (he : ErrW w a) : Calls Tryd.prog 3 #[] w fun e w' => e = .returned (.bool true) ∧ Below w.heap.size w w' := by
  have HE := Lib.hid he
  have HS := Lib.hid (rsame_any (.slice (some ⟨w.heap.size, 0, none⟩) 20 20) (.slice (some ⟨w.heap.size + 1, 0, none⟩) 20 20) namesZ namesZ ((w.alloc (.cells litN 3)).alloc (.cells litN 3)) (sliceI_lit (cs := litN) (zs := namesZ) (two_new w _ _).1 rfl) (sliceI_lit (cs := litN) (zs := namesZ) (two_new w _ _).2 rfl) (by decide))
  clear he
  go_enter Tryd.func3, Tryd.ntmps3
  go_wp2_with fail
  refine HS.out.mono ?_
  rintro e w1 ⟨rfl, q, hw1⟩
  have hb1 : Below w.heap.size w w1 := by
    rw [hw1]
    exact below_drewN' (((Below.refl _ _).alloc (Nat.le_refl _) _).alloc (by simp) _) q
  have he1 := HE.out.below hb1 (Nat.le_refl _)
  have g0 : w1.cell? ⟨0, 0, none⟩ = some (.iface 40 (.pointer (some (a 0)))) := he1.var 0 (by decide)
  have g1 : w1.cell? ⟨1, 0, none⟩ = some (.iface 40 (.pointer (some (a 1)))) := he1.var 1 (by decide)
  have g2 : w1.cell? ⟨2, 0, none⟩ = some (.iface 40 (.pointer (some (a 2)))) := he1.var 2 (by decide)
  have g3 : w1.cell? ⟨3, 0, none⟩ = some (.iface 40 (.pointer (some (a 3)))) := he1.var 3 (by decide)
  have g4 : w1.cell? ⟨4, 0, none⟩ = some (.iface 40 (.pointer (some (a 4)))) := he1.var 4 (by decide)
  have g5 : w1.cell? ⟨5, 0, none⟩ = some (.iface 40 (.pointer (some (a 5)))) := he1.var 5 (by decide)
  have g6 : w1.cell? ⟨6, 0, none⟩ = some (.iface 40 (.pointer (some (a 6)))) := he1.var 6 (by decide)
  have g7 : w1.cell? ⟨7, 0, none⟩ = some (.iface 40 (.pointer (some (a 7)))) := he1.var 7 (by decide)
  have HE1 := Lib.hid he1
  have HB1 := Lib.hid hb1
  clear HS he1 hb1 hw1
  have hb2 : Below w.heap.size w ((w1.alloc (.cells (litE a) 25)).alloc (.cells litT 9)) := (HB1.out.alloc HB1.out.size _).alloc (by have := HB1.out.size; simp; omega) _
  have HB2 := Lib.hid hb2
  have HE2 := Lib.hid (HE.out.below hb2 (Nat.le_refl _))
  have HCE : Hid (∀ k, k < 8 → ((w1.alloc (.cells (litE a) 25)).alloc (.cells litT 9)).cell? ⟨w1.heap.size, k, none⟩ = some (.iface 40 (.pointer (some (a k))))) := fun k hk => by
    have h := (two_new w1 (.cells (litE a) 25) (.cells litT 9)).1
    simp only [World.cell?, h]
    exact litE_at a k hk
  have HCT : Hid (∀ k, k < 8 → ((w1.alloc (.cells (litE a) 25)).alloc (.cells litT 9)).cell? ⟨w1.heap.size + 1, k, none⟩ = some (.string (tt k))) := fun k hk => by
    have h := (two_new w1 (.cells (litE a) 25) (.cells litT 9)).2
    simp only [World.cell?, h]
    exact litT_at k hk
  have HSZ : Hid (((w1.alloc (.cells (litE a) 25)).alloc (.cells litT 9)).heap.size = w1.heap.size + 1 + 1) := by simp [Hid]
  obtain ⟨w2, hw2⟩ : ∃ w2, (w1.alloc (.cells (litE a) 25)).alloc (.cells litT 9) = w2 := ⟨_, rfl⟩
  rw [hw2] at HB2 HE2 HCE HCT HSZ
  have HW2 := Lib.hid hw2
  clear hb2 hw2
  go_wp2_with fail
  clear g0 g1 g2 g3 g4 g5 g6 g7
  go_loopw [5] (fun s wr => ∃ k : Nat, k ≤ 8 ∧ s = .int .i64 k ∧ Below w2.heap.size w2 wr) (fun s _ => 8 - (intOf s).toNat)
  case atStart => exact ⟨0, Nat.zero_le _, rfl, by rw [← HW2.out]; exact Below.refl _ _⟩
  case round =>
    obtain ⟨k, hk, rfl, hb⟩ := hrel
    by_cases h8 : k < 8
    · have hce := cell_below hb (Nat.le_refl _) (HCE.out k h8)
      have hct := cell_below hb (Nat.le_refl _) (HCT.out k h8)
      have her := HE2.out.below hb (Nat.le_refl _)
      obtain ⟨sk, hsk, hse⟩ := her.str k h8
      have hse' : sk = pfx ++ tt k := string_of (by rw [hse, tt_eq k h8])
      subst hse'
      have HER := Lib.hid her
      clear hse her
      have hb3 : Below w2.heap.size w2 (wr.alloc (.cells #[.int .i64 7, .iface 40 (.pointer (some (a k)))] 32)) := hb.alloc hb.size _
      have HCF := Lib.hid (code_fault wr.heap.size 7 k h8 a _ (HE2.out.below hb3 (Nat.le_refl _)) (World.cell?_alloc_at _ _ _ _ rfl) (World.cell?_alloc_at _ _ _ _ rfl))
      have HB3 := Lib.hid hb3
      have HCZ := Lib.hid (show codeZ k = (k : Int) + 1 by unfold codeZ; rw [if_pos h8])
      clear hb3 hb
      go_wp2_with fail
      refine HCF.out.mono ?_
      rintro e w4 ⟨rfl, hb4⟩
      rw [HCZ.out]
      have hb24 := HB3.out.trans (hb4.mono HB3.out.size)
      have hce4 := cell_below hb24 (Nat.le_refl _) (HCE.out k h8)
      have hct4 := cell_below hb24 (Nat.le_refl _) (HCT.out k h8)
      have her4 := HE2.out.below hb24 (Nat.le_refl _)
      have hsk4 : w4.cell? (a k) = some (.string (pfx ++ tt k)) := by
        have h := cell_below hb4 (by simp) (cell_below ((Below.refl _ _).alloc (Nat.le_refl _) (.cells #[.int .i64 7, .iface 40 (.pointer (some (a k)))] 32)) (Nat.le_refl _) hsk)
        exact h
      have HER4 := Lib.hid her4
      have HB24 := Lib.hid hb24
      clear hce hct hsk hb4 her4 hb24 HCF HER
      have hNA := @sNilAhead
      have hME := @sMethod
      obtain ⟨sk, hSK⟩ : ∃ sk, pfx ++ tt k = sk := ⟨_, rfl⟩
      have hcat : ∀ w, (Op.stringOp .add pfx (tt k)).run Tryd.prog w = .ok (.string sk) w := fun w => by rw [← hSK]; have h := run_cat k h8 w; rw [binOp_string_add] at h; exact h
      unfold pfx at hcat
      rw [hSK] at hsk4
      have hneq : (sk.toList == sk.toList) = true := by simp
      obtain ⟨tk, hTK⟩ : ∃ tk, tt k = tk := ⟨_, rfl⟩
      rw [hTK] at hct4 hcat
      clear hSK hTK
      have HCC := Lib.hid (fun (w5 : World) (hb5 : Below w4.drew.heap.size w4.drew w5) => (⟨cell_below (w := w4.drew) hb5 (Nat.le_refl _) hce4, cell_below (w := w4.drew) hb5 (Nat.le_refl _) hct4, cell_below (w := w4.drew) hb5 (Nat.le_refl _) hsk4⟩ : w5.cell? ⟨w1.heap.size, k, none⟩ = some (.iface 40 (.pointer (some (a k)))) ∧ w5.cell? ⟨w1.heap.size + 1, k, none⟩ = some (.string tk) ∧ w5.cell? (a k) = some (.string sk)))
      have HCD := Lib.hid (coded_err k h8 a ((k : Int) + 1) w4.drew HER4.out.drew)
      unfold sentV at HCD
      have hwr : IntKind.i64.wrap ((k : Int) + 1) = (k : Int) + 1 := IntWalk.i64_in _ (by omega)
      go_upto_region 11 with fail
      go_region_held3 (fun w' => w'.cell? ⟨w1.heap.size, k, none⟩ = some (.iface 40 (.pointer (some (a k)))) ∧ w'.cell? ⟨w1.heap.size + 1, k, none⟩ = some (.string tk) ∧ w'.cell? (a k) = some (.string sk)) (first | exact ⟨hce4, hct4, hsk4⟩ | exact ⟨r1, r2, r3⟩) (first | (go_at_call 37; refine (serror_any (a k) sk w4.drew hsk4).mono ?_; rintro e w' ⟨rfl, rfl⟩) | (go_at_call 6; refine HCD.out.mono ?_; rintro e w5 ⟨rfl, hb5⟩; obtain ⟨r1, r2, r3⟩ := HCC.out w5 hb5))
      have hb25 : Below w2.heap.size w2 w5 := HB24.out.drew.trans (hb5.mono HB24.out.size)
      clear hb5 HCC HCD hwr hneq hcat hNA hME hce4 hct4 hsk4 r1 r2 r3
      go_wp2_with fail
      go_roundw
      case rel => exact ⟨k + 1, by omega, by go_num, hb25⟩
      case measure => simp [intOf]; omega
    · obtain rfl : k = 8 := by omega
      have HB := Lib.hid hb
      have HN1 := Lib.hid (enew_any anb wr)
      clear hb
      have HEN : Hid (ErrW (wr.alloc (.cells #[.string anb] 42)) a) := HE2.out.below (HB.out.alloc HB.out.size _) (Nat.le_refl _)
      have HNE : Hid (∀ k, k < 8 → k ≠ 8 → (⟨wr.heap.size, 0, none⟩ : Addr) ≠ a k) := fun k hk _ e => by
        obtain ⟨c, t, h⟩ := (HE2.out.below HB.out (Nat.le_refl _)).blk k hk
        have h := heap_lt h
        rw [← e] at h
        simp at h
      have HCO := Lib.hid (code_sent ⟨wr.heap.size, 0, none⟩ 8 (Nat.le_refl _) a _ HEN.out (fun h => absurd h (by omega)) HNE.out ⟨_, _, heap_new wr _⟩)
      have HC8 := Lib.hid (show codeZ 8 = -1 from rfl)
      go_wp2_with fail
      refine HN1.out.mono ?_
      rintro e w5 ⟨rfl, rfl⟩
      go_wp2_with fail
      refine HCO.out.mono ?_
      rintro e w6 ⟨rfl, hb6⟩
      rw [HC8.out]
      go_wp2_with fail
      refine (coded_nil 0 _).mono ?_
      rintro e w7 ⟨rfl, rfl⟩
      go_wp2_with fail
      go_ret
      exact ⟨rfl, HB2.out.trans (((HB.out.alloc HB.out.size _).trans (hb6.mono (by have := HB.out.size; simp; omega))).mono HB2.out.size)⟩
end Go.Proofs.YthceokdanphmlaaDoor
