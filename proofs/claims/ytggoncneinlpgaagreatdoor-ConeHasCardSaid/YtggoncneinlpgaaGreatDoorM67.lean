/- Walk: nat.add: a number of two words and one of one; of at most two and at most one. Walk: nat.sub: from a number of at most two words one of at most one that is not greater. -/
import Derived.Test.YtggoncneinlpgaaGreatDoorM5
namespace Go.Proofs.YtggoncneinlpgaaGreatDoor
open Go Go.RowKit Nt

/-- Behind addVW: its carry; the second word. -/
def VWOut (w1 : World) (a : Nat) (cs : Array Value) (q r : Nat) (v : Value) (w2 : World) : Prop :=
  v = .int .u64 q ∧ ∃ cs', Blk w2 a cs' 80 ∧ cs'.size = cs.size ∧ cs'[1]? = some (.int .u64 r) ∧ (∀ j, j ≠ 1 → cs'[j]? = cs[j]?) ∧ Chg [a] w1 w2

/-- The second word of x behind what was written to the first word of a row, be it x's own or not. -/
theorem second_word {w1 w2 : World} {a ax : Nat} {cs cs' csx : Array Value} {X : Value} (hb : Blk w1 a cs 80) (hb' : Blk w2 a cs' 80) (ho : ∀ j, j ≠ 0 → cs'[j]? = cs[j]?) (hc : Chg [a] w1 w2) (hx : Blk w1 ax csx 80) (h : csx[1]? = some X) :
    (∃ csx2, Blk w2 ax csx2 80) ∧ w2.cell? ⟨ax, 1, none⟩ = some X := by
  by_cases e : ax = a
  · subst e
    obtain ⟨rfl, _⟩ := hb.type hx
    exact ⟨⟨_, hb'⟩, (hb'.cell 1).trans ((ho 1 (by omega)).trans h)⟩
  · have h2 := hx.chg hc (by simpa using e)
    exact ⟨⟨_, h2⟩, (h2.cell 1).trans h⟩

set_option maxRecDepth 100000 in
set_option maxHeartbeats 1000000 in
theorem nadd_21 (v x y : Value) (S T U : List Nat) (X Y : Nat) (w : World) (hs : Sto w v S) (hx : Wd w x (dg X) T) (hX0 : 18446744073709551616 ≤ X) (hX : X < 18446744073709551616 * 18446744073709551616) (hy : Wd w y (dg Y) U) (hY0 : Y ≠ 0) (hY : Y < 18446744073709551616) :
    Calls Tryz.prog 40 #[v, x, y] w (NatRes w S (X + Y)) := by
  have hen := addVV_enters
  rw [dg_two hX0 hX] at hx
  rw [dg_one hY0 (by rw [B_eq]; exact hY)] at hy
  rcases hx with ⟨_, _, h⟩ | ⟨ax, cx, csx, rfl, rfl, h1, h2, h3, hbx, hcx⟩
  · cases h
  rcases hy with ⟨_, _, h⟩ | ⟨ay, cy, csy, rfl, rfl, h1y, h2y, h3y, hby, hcy⟩
  · cases h
  have h1n : 2 ≤ cx := by simpa using h1
  have h1yn : 1 ≤ cy := by simpa using h1y
  have hcx0 := hcx 0 (by simp)
  have hcx1 := hcx 1 (by simp)
  have hcy0 := hcy 0 (by simp)
  simp only [List.getElem_cons_zero, List.getElem_cons_succ] at hcx0 hcx1 hcy0
  clear hcx hcy
  obtain ⟨x0, hx0⟩ : ∃ r, X % 18446744073709551616 = r := ⟨_, rfl⟩
  obtain ⟨x1, hx1⟩ : ∃ r, X / 18446744073709551616 = r := ⟨_, rfl⟩
  rw [hx0] at hcx0
  rw [hx1] at hcx1
  have l0 : x0 < 18446744073709551616 := by omega
  have l1 : x1 < 18446744073709551616 := by omega
  have HXX := Lib.hid (show X = x0 + 18446744073709551616 * x1 by omega)
  clear hx0 hx1
  have HM := Lib.hid (fun (a cap : Nat) (cs : Array Value) (w : World) hb h1 hx hy => addVV_one a cap ax cx ay cy x0 Y cs w hb h1 hx hy l0 hY)
  have lc : (x0 + Y) / 18446744073709551616 ≤ 1 := by omega
  have HW := Lib.hid (fun (a cap cxx : Nat) (cs csx : Array Value) (w : World) hb h1 hc1 hcx1 hbx hx => addVW_one a cap ax cxx x1 ((x0 + Y) / 18446744073709551616) cs csx w hb h1 hc1 hcx1 hbx hx l1 lc)
  have HNV := Lib.hid (show nv [(x0 + Y) % 18446744073709551616, (x1 + (x0 + Y) / 18446744073709551616) % 18446744073709551616, (x1 + (x0 + Y) / 18446744073709551616) / 18446744073709551616] = X + Y by have := HXX.out; simp only [nv, B_eq]; omega)
  have HD : Dig [(x0 + Y) % 18446744073709551616, (x1 + (x0 + Y) / 18446744073709551616) % 18446744073709551616, (x1 + (x0 + Y) / 18446744073709551616) / 18446744073709551616] := Dig.cons (by rw [B_eq]; omega) (Dig.cons (by rw [B_eq]; omega) (Dig.cons (by rw [B_eq]; omega) Dig.nil))
  obtain ⟨lo, hlo⟩ : ∃ r, (x0 + Y) % 18446744073709551616 = r := ⟨_, rfl⟩
  obtain ⟨c0, hc0⟩ : ∃ r, (x0 + Y) / 18446744073709551616 = r := ⟨_, rfl⟩
  rw [hlo, hc0] at HNV HD HM
  rw [hc0] at HW
  clear hlo hc0 lc
  obtain ⟨r1, hr1⟩ : ∃ r, (x1 + c0) % 18446744073709551616 = r := ⟨_, rfl⟩
  obtain ⟨q1, hq1⟩ : ∃ r, (x1 + c0) / 18446744073709551616 = r := ⟨_, rfl⟩
  rw [hr1, hq1] at HNV HD HW
  clear hr1 hq1 hX hX0
  go_enter Tryz.func40, Tryz.ntmps40
  go_wp2_with fail
  refine (make_any v S 3 w hs (by omega) (by omega)).mono ?_
  rintro e w1 ⟨a, cap, cs, rfl, h1', h2', h3', hb, ha, hc1, hq⟩
  have hbx1 := hbx.chg hc1 (by simp)
  have hx1 : w1.cell? ⟨ax, 0, none⟩ = some (.int .u64 x0) := (hbx1.cell 0).trans hcx0
  have hy1 : w1.cell? ⟨ay, 0, none⟩ = some (.int .u64 Y) := ((hby.chg hc1 (by simp)).cell 0).trans hcy0
  clear hq
  go_upto_region 10 with fail
  go_cut [9] (fun c wx => VVOut w1 a cs c0 lo c wx)
  case first =>
    go_region_with (first | (go_at_call 29; refine (HM.out a cap cs w1.drew (by exact hb) (by omega) (by exact hx1) (by exact hy1)).mono ?_; rintro e w2 ⟨rfl, cs', hb', hs', hs0, ho, hc2⟩))
    all_goals (go_wp2_with fail; go_meet; exact ⟨rfl, cs', hb', hs', hs0, ho, (Chg.refl _ _).drew.trans hc2⟩)
  case rest =>
    obtain ⟨rfl, cs', hb', hs', hs0, ho, hc2⟩ := hcut
    obtain ⟨⟨csx2, hbx2⟩, hx2⟩ := second_word hb hb' ho hc2 hbx1 hcx1
    obtain ⟨w2, rfl⟩ : ∃ w2 : World, w2 = wc := ⟨_, rfl⟩
    go_upto_region 12 with fail
    go_cut [9] (fun c wx => VWOut w2 a cs' q1 r1 c wx)
    case first =>
      go_region_with (first | (go_at_call 64; refine (HW.out a (cap - 1) (cx - 1) cs' csx2 w2.drew (by exact hb') (by omega) (by omega) (by omega) (by exact hbx2) (by exact hx2)).mono ?_; rintro e w3 ⟨rfl, cs3, hb3, hs3, hs30, ho3, hc3⟩))
      all_goals (go_wp2_with fail; go_meet; exact ⟨rfl, cs3, hb3, hs3, hs30, ho3, (Chg.refl _ _).drew.trans hc3⟩)
    case rest =>
      obtain ⟨rfl, cs3, hb3, hs3, hs30, ho3, hc3⟩ := hcut
      have f1 := (hb3.cell 2).trans (show cs3[2]? = some (cs3[2]'(by omega)) by simp)
      have g1 := hb3.free 2
      generalize cs3[2]'(by omega) = c1 at f1
      obtain ⟨cs4, hb4, hs4, hs41, ho4⟩ := Blk.of_set (i := 2) hb3 (.int .u64 (q1 : Int)) (by omega)
      have HCC : Cells cs4 [lo, r1, q1] := fun i hi => by
        match i, hi with
        | 0, _ => rw [ho4 0 (by omega), ho3 0 (by omega)]; exact hs0
        | 1, _ => rw [ho4 1 (by omega)]; exact hs30
        | 2, _ => exact hs41
      go_wp2_with fail
      refine (norm_any a cap cs4 [lo, r1, q1] _ hb4 (by simpa using h1') h2' (by omega) HCC HD).mono ?_
      rintro e w4 ⟨v', rfl, hw3, rfl⟩
      rw [HNV.out] at hw3
      go_wp2
      go_ret
      refine ⟨_, [a], rfl, hw3, ?_, ?_⟩
      · intro k hk
        simp at hk; subst hk; exact ha
      · exact ((hc1.mono (by simp)).trans' (hc2.trans hc3) (by intro k hk; simp at hk; subst hk; exact ha)).setCell ha _

set_option maxRecDepth 100000 in
set_option maxHeartbeats 1000000 in
theorem nadd_ge (v x y : Value) (S T U : List Nat) (X Y : Nat) (w : World) (hs : Sto w v S) (hx : Wd w x (dg X) T) (hX : X < 18446744073709551616 * 18446744073709551616) (hy : Wd w y (dg Y) U) (hY : Y < 18446744073709551616) (hXY : Y ≠ 0 → X ≠ 0) :
    Calls Tryz.prog 40 #[v, x, y] w (NatRes w S (X + Y)) := by
  by_cases hY0 : Y = 0
  · subst hY0
    rw [Nat.add_zero]
    have hl : (dg X).length ≤ 2 := @dg_length_le X 2 (by rw [B_eq]; omega)
    have HC := Lib.hid (nset_any v x S T (dg X) w hs hx (by omega))
    rw [dg_zero] at hy
    obtain ⟨oy, cy, rfl, _, _⟩ := wd_form hy
    by_cases hX0 : X = 0
    · subst hX0
      rw [dg_zero] at hx
      obtain ⟨ox, cx, rfl, _, _⟩ := wd_form hx
      obtain ⟨o, n, cap, rfl, hw⟩ := wd_nil hs
      have hbd := sto_bounds hs
      clear HC
      go_enter Tryz.func40, Tryz.ntmps40
      go_wp2_with fail
      go_ret
      exact ⟨_, S, rfl, hw, fun k hk => .inl hk, Chg.refl _ _⟩
    · obtain ⟨l, hl'⟩ : ∃ l, (dg X).length = l + 1 := ⟨(dg X).length - 1, by rw [dg_pos hX0]; simp⟩
      obtain ⟨ox, cx, rfl, _, _⟩ := wd_form hx
      rw [hl'] at HC hl ⊢
      clear hx hs hl'
      go_enter Tryz.func40, Tryz.ntmps40
      go_wp2_with fail
      refine HC.out.mono ?_
      rintro e w1 ⟨v', S', rfl, r1, r2, r3⟩
      go_wp2_with fail
      go_ret
      exact ⟨v', S', rfl, r1, r2, r3⟩
  · by_cases h1 : X < 18446744073709551616
    · exact nadd_11 v x y S T U X Y w hs hx (hXY hY0) h1 hy hY0 hY
    · exact nadd_21 v x y S T U X Y w hs hx (by omega) hX hy hY0 hY

set_option maxRecDepth 100000 in
set_option maxHeartbeats 1000000 in
theorem nadd_any (v x y : Value) (S T U : List Nat) (X Y : Nat) (w : World) (hs : Sto w v S) (hx : Wd w x (dg X) T) (hX : X < 18446744073709551616 * 18446744073709551616) (hy : Wd w y (dg Y) U) (hY : Y < 18446744073709551616) :
    Calls Tryz.prog 40 #[v, x, y] w (NatRes w S (X + Y)) := by
  by_cases hXY : Y ≠ 0 → X ≠ 0
  · exact nadd_ge v x y S T U X Y w hs hx hX hy hY hXY
  · have hY0 : Y ≠ 0 := fun h => hXY (fun h' => absurd h h')
    have hX0 : X = 0 := Decidable.byContradiction fun h => hXY fun _ => h
    subst hX0
    have HC := Lib.hid (nadd_ge v y x S U T Y 0 w hs hy (by omega) hx (by omega) (fun h => absurd rfl h))
    rw [Nat.add_zero] at HC
    rw [Nat.zero_add]
    rw [dg_zero] at hx
    rw [dg_one hY0 (by rw [B_eq]; exact hY)] at hy
    obtain ⟨ox, cx, rfl, _, _⟩ := wd_form hx
    obtain ⟨oy, cy, rfl, _, _⟩ := wd_form hy
    clear hs hx hy
    go_enter Tryz.func40, Tryz.ntmps40
    go_wp2_with fail
    refine HC.out.mono ?_
    rintro e w1 ⟨v', S', rfl, r1, r2, r3⟩
    go_wp2_with fail
    go_ret
    exact ⟨v', S', rfl, r1, r2, r3⟩
end Go.Proofs.YtggoncneinlpgaaGreatDoor
namespace Go.Proofs.YtggoncneinlpgaaGreatDoor
open Go Go.RowKit Nt

set_option maxRecDepth 100000 in
set_option maxHeartbeats 2000000 in
theorem nsub_11 (v x y : Value) (S T U : List Nat) (X Y : Nat) (w : World) (hs : Sto w v S) (hx : Wd w x (dg X) T) (hXY : Y ≤ X) (hX : X < 18446744073709551616) (hy : Wd w y (dg Y) U) (hY0 : Y ≠ 0) (hY : Y < 18446744073709551616) :
    Calls Tryz.prog 42 #[v, x, y] w (NatRes w S (X - Y)) := by
  have hen := subVV_enters
  rw [dg_one (by omega) (by rw [B_eq]; exact hX)] at hx
  rw [dg_one hY0 (by rw [B_eq]; exact hY)] at hy
  rcases hx with ⟨_, _, h⟩ | ⟨ax, cx, csx, rfl, rfl, h1, h2, h3, hbx, hcx⟩
  · cases h
  rcases hy with ⟨_, _, h⟩ | ⟨ay, cy, csy, rfl, rfl, h1y, h2y, h3y, hby, hcy⟩
  · cases h
  have h1n : 1 ≤ cx := by simpa using h1
  have h1yn : 1 ≤ cy := by simpa using h1y
  have HM := Lib.hid (fun (a cap : Nat) (cs : Array Value) (w : World) hb h1 hx hy => subVV_one a cap ax cx ay cy X Y cs w hb h1 hx hy)
  have HNV := Lib.hid (show nv [(X + 18446744073709551616 - Y) % 18446744073709551616] = X - Y by simp only [nv, B_eq]; omega)
  have HD : Dig [(X + 18446744073709551616 - Y) % 18446744073709551616] := Dig.cons (by rw [B_eq]; omega) Dig.nil
  simp only [show ¬ X < Y by omega, if_false] at HM
  obtain ⟨lo, hlo⟩ : ∃ r, (X + 18446744073709551616 - Y) % 18446744073709551616 = r := ⟨_, rfl⟩
  rw [hlo] at HNV HD HM
  clear hlo
  go_enter Tryz.func42, Tryz.ntmps42
  go_wp2_with fail
  refine (make_any v S 1 w hs (by omega) (by omega)).mono ?_
  rintro e w1 ⟨a, cap, cs, rfl, h1', h2', h3', hb, ha, hc1, hq⟩
  have hx1 : w1.cell? ⟨ax, 0, none⟩ = some (.int .u64 X) := ((hbx.chg hc1 (by simp)).cell 0).trans (hcx 0 (by simp))
  have hy1 : w1.cell? ⟨ay, 0, none⟩ = some (.int .u64 Y) := ((hby.chg hc1 (by simp)).cell 0).trans (hcy 0 (by simp))
  clear hq
  go_upto_region 10 with fail
  go_cut [9] (fun c wx => VVOut w1 a cs 0 lo c wx)
  case first =>
    go_region_with (first | (go_at_call 30; refine (HM.out a cap cs w1.drew (by exact hb) (by omega) (by exact hx1) (by exact hy1)).mono ?_; rintro e w2 ⟨rfl, cs', hb', hs', hs0, ho, hc2⟩))
    all_goals (go_wp2_with fail; go_meet; exact ⟨rfl, cs', hb', hs', hs0, ho, (Chg.refl _ _).drew.trans hc2⟩)
  case rest =>
    obtain ⟨rfl, cs', hb', hs', hs0, ho, hc2⟩ := hcut
    have HCC : Cells cs' [lo] := fun i hi => by
      match i, hi with
      | 0, _ => exact hs0
    go_wp2_with fail
    refine (norm_any a cap cs' [lo] _ hb' (by simpa using h1') h2' (by omega) HCC HD).mono ?_
    rintro e w3 ⟨v', rfl, hw3, rfl⟩
    rw [HNV.out] at hw3
    go_wp2
    go_ret
    refine ⟨_, [a], rfl, hw3, ?_, ?_⟩
    · intro k hk
      simp at hk; subst hk; exact ha
    · exact (hc1.mono (by simp)).trans' hc2 (by intro k hk; simp at hk; subst hk; exact ha)

set_option maxRecDepth 100000 in
set_option maxHeartbeats 2000000 in
theorem nsub_21 (v x y : Value) (S T U : List Nat) (X Y : Nat) (w : World) (hs : Sto w v S) (hx : Wd w x (dg X) T) (hX0 : 18446744073709551616 ≤ X) (hX : X < 18446744073709551616 * 18446744073709551616) (hy : Wd w y (dg Y) U) (hY0 : Y ≠ 0) (hY : Y < 18446744073709551616) :
    Calls Tryz.prog 42 #[v, x, y] w (NatRes w S (X - Y)) := by
  have hen := subVV_enters
  rw [dg_two hX0 hX] at hx
  rw [dg_one hY0 (by rw [B_eq]; exact hY)] at hy
  rcases hx with ⟨_, _, h⟩ | ⟨ax, cx, csx, rfl, rfl, h1, h2, h3, hbx, hcx⟩
  · cases h
  rcases hy with ⟨_, _, h⟩ | ⟨ay, cy, csy, rfl, rfl, h1y, h2y, h3y, hby, hcy⟩
  · cases h
  have h1n : 2 ≤ cx := by simpa using h1
  obtain ⟨cx, rfl⟩ : ∃ c, cx = c + 2 := ⟨cx - 2, by omega⟩
  have h1yn : 1 ≤ cy := by simpa using h1y
  have hcx0 := hcx 0 (by simp)
  have hcx1 := hcx 1 (by simp)
  have hcy0 := hcy 0 (by simp)
  simp only [List.getElem_cons_zero, List.getElem_cons_succ] at hcx0 hcx1 hcy0
  clear hcx hcy
  obtain ⟨x0, hx0⟩ : ∃ r, X % 18446744073709551616 = r := ⟨_, rfl⟩
  obtain ⟨x1, hx1⟩ : ∃ r, X / 18446744073709551616 = r := ⟨_, rfl⟩
  rw [hx0] at hcx0
  rw [hx1] at hcx1
  have l0 : x0 < 18446744073709551616 := by omega
  have l1 : x1 < 18446744073709551616 := by omega
  have HXX := Lib.hid (show X = x0 + 18446744073709551616 * x1 by omega)
  clear hx0 hx1
  have HM := Lib.hid (fun (a cap : Nat) (cs : Array Value) (w : World) hb h1 hx hy => subVV_one a cap ax (cx + 2) ay cy x0 Y cs w hb h1 hx hy)
  have lx : 1 ≤ x1 := by have := HXX.out; omega
  have lc : (if x0 < Y then 1 else 0) ≤ x1 := by split <;> omega
  have HW := Lib.hid (fun (a cap cxx : Nat) (cs csx : Array Value) (w : World) hb h1 hc1 hcx1 hbx hx => subVW_one a cap ax cxx x1 (if x0 < Y then 1 else 0) cs csx w hb h1 hc1 hcx1 hbx hx lc l1)
  have HNV := Lib.hid (show nv [(x0 + 18446744073709551616 - Y) % 18446744073709551616, x1 - (if x0 < Y then 1 else 0)] = X - Y by have := HXX.out; simp only [nv, B_eq]; split <;> omega)
  have HD : Dig [(x0 + 18446744073709551616 - Y) % 18446744073709551616, x1 - (if x0 < Y then 1 else 0)] := Dig.cons (by rw [B_eq]; omega) (Dig.cons (by rw [B_eq]; omega) Dig.nil)
  obtain ⟨lo, hlo⟩ : ∃ r, (x0 + 18446744073709551616 - Y) % 18446744073709551616 = r := ⟨_, rfl⟩
  obtain ⟨c0, hc0⟩ : ∃ r : Nat, (if x0 < Y then 1 else 0) = r := ⟨_, rfl⟩
  rw [hlo, hc0] at HNV HD
  rw [hlo, hc0] at HM
  rw [hc0] at HW lc
  clear hlo hc0
  obtain ⟨r1, hr1⟩ : ∃ r, x1 - c0 = r := ⟨_, rfl⟩
  rw [hr1] at HNV HD HW
  have HW2 : Hid (∀ (a cap cxx : Nat) (cs csx : Array Value) (w : World), Blk w a cs 80 → 2 ≤ cs.size → 1 ≤ cap → 1 ≤ cxx → Blk w ax csx 80 → w.cell? ⟨ax, 1, none⟩ = some (.int .u64 x1) →
      Calls Tryz.prog 68 #[.slice (some ⟨a, 1, none⟩) 1 cap, .slice (some ⟨ax, 1, none⟩) 1 cxx, .int .u64 c0] w fun e w' => ∃ v, e = .returned v ∧ VWOut w a cs 0 r1 v w') :=
    Lib.hid fun a cap cxx cs csx w hb h1 hc1 hcx1 hbx hx => (HW.out a cap cxx cs csx w hb h1 hc1 hcx1 hbx hx).mono fun e w' h => ⟨_, h.1, rfl, h.2⟩
  clear HW
  clear hr1 hX hX0 lc lx
  go_enter Tryz.func42, Tryz.ntmps42
  go_wp2_with fail
  refine (make_any v S 2 w hs (by omega) (by omega)).mono ?_
  rintro e w1 ⟨a, cap, cs, rfl, h1', h2', h3', hb, ha, hc1, hq⟩
  obtain ⟨cap, rfl⟩ : ∃ c, cap = c + 2 := ⟨cap - 2, by omega⟩
  have hbx1 := hbx.chg hc1 (by simp)
  have hx1 : w1.cell? ⟨ax, 0, none⟩ = some (.int .u64 x0) := (hbx1.cell 0).trans hcx0
  have hy1 : w1.cell? ⟨ay, 0, none⟩ = some (.int .u64 Y) := ((hby.chg hc1 (by simp)).cell 0).trans hcy0
  clear hq
  go_upto_region 10 with fail
  go_cut [9] (fun c wx => VVOut w1 a cs c0 lo c wx)
  case first =>
    go_region_with (first | (go_at_call 30; refine (HM.out a (cap + 2) cs w1.drew (by exact hb) (by omega) (by exact hx1) (by exact hy1)).mono ?_; rintro e w2 ⟨rfl, cs', hb', hs', hs0, ho, hc2⟩))
    all_goals (go_wp2_with fail; go_meet; exact ⟨rfl, cs', hb', hs', hs0, ho, (Chg.refl _ _).drew.trans hc2⟩)
  case rest =>
    obtain ⟨rfl, cs', hb', hs', hs0, ho, hc2⟩ := hcut
    obtain ⟨⟨csx2, hbx2⟩, hx2⟩ := second_word hb hb' ho hc2 hbx1 hcx1
    obtain ⟨w2, rfl⟩ : ∃ w2 : World, w2 = wc := ⟨_, rfl⟩
    go_upto_region 12 with fail
    go_cut [9] (fun c wx => VWOut w2 a cs' 0 r1 c wx)
    case first =>
      go_region_with (first | (go_at_call 68; refine (HW2.out a (cap + 1) (cx + 1) cs' csx2 w2.drew (by exact hb') (by omega) (by omega) (by omega) (by exact hbx2) (by exact hx2)).mono ?_; rintro e w3 ⟨_, rfl, rfl, cs3, hb3, hs3, hs30, ho3, hc3⟩))
      all_goals (go_wp2_with fail; go_meet; exact ⟨rfl, cs3, hb3, hs3, hs30, ho3, (Chg.refl _ _).drew.trans hc3⟩)
    case rest =>
      obtain ⟨rfl, cs3, hb3, hs3, hs30, ho3, hc3⟩ := hcut
      have HCC : Cells cs3 [lo, r1] := fun i hi => by
        match i, hi with
        | 0, _ => rw [ho3 0 (by omega)]; exact hs0
        | 1, _ => exact hs30
      go_wp2_with fail
      refine (norm_any a (cap + 2) cs3 [lo, r1] _ hb3 (by simp) h2' (by omega) HCC HD).mono ?_
      rintro e w4 ⟨v', rfl, hw3, rfl⟩
      rw [HNV.out] at hw3
      go_wp2
      go_ret
      refine ⟨_, [a], rfl, hw3, ?_, ?_⟩
      · intro k hk
        simp at hk; subst hk; exact ha
      · exact (hc1.mono (by simp)).trans' (hc2.trans hc3) (by intro k hk; simp at hk; subst hk; exact ha)

set_option maxRecDepth 100000 in
set_option maxHeartbeats 2000000 in
theorem nsub_any (v x y : Value) (S T U : List Nat) (X Y : Nat) (w : World) (hs : Sto w v S) (hx : Wd w x (dg X) T) (hX : X < 18446744073709551616 * 18446744073709551616) (hy : Wd w y (dg Y) U) (hY : Y < 18446744073709551616) (hXY : Y ≤ X) :
    Calls Tryz.prog 42 #[v, x, y] w (NatRes w S (X - Y)) := by
  by_cases hY0 : Y = 0
  · subst hY0
    rw [Nat.sub_zero]
    have hl : (dg X).length ≤ 2 := @dg_length_le X 2 (by rw [B_eq]; omega)
    have HC := Lib.hid (nset_any v x S T (dg X) w hs hx (by omega))
    rw [dg_zero] at hy
    obtain ⟨oy, cy, rfl, _, _⟩ := wd_form hy
    by_cases hX0 : X = 0
    · subst hX0
      rw [dg_zero] at hx
      obtain ⟨ox, cx, rfl, _, _⟩ := wd_form hx
      obtain ⟨o, n, cap, rfl, hw⟩ := wd_nil hs
      have hbd := sto_bounds hs
      clear HC
      go_enter Tryz.func42, Tryz.ntmps42
      go_wp2_with fail
      go_ret
      exact ⟨_, S, rfl, hw, fun k hk => .inl hk, Chg.refl _ _⟩
    · obtain ⟨l, hl'⟩ : ∃ l, (dg X).length = l + 1 := ⟨(dg X).length - 1, by rw [dg_pos hX0]; simp⟩
      obtain ⟨ox, cx, rfl, _, _⟩ := wd_form hx
      rw [hl'] at HC hl ⊢
      clear hx hs hl'
      go_enter Tryz.func42, Tryz.ntmps42
      go_wp2_with fail
      refine HC.out.mono ?_
      rintro e w1 ⟨v', S', rfl, r1, r2, r3⟩
      go_wp2_with fail
      go_ret
      exact ⟨v', S', rfl, r1, r2, r3⟩
  · by_cases h1 : X < 18446744073709551616
    · exact nsub_11 v x y S T U X Y w hs hx hXY h1 hy hY0 hY
    · exact nsub_21 v x y S T U X Y w hs hx (by omega) hX hy hY0 hY

end Go.Proofs.YtggoncneinlpgaaGreatDoor
