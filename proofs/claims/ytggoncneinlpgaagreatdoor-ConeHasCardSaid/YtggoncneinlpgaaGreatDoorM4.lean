/- Walks: addVV, subVV, addVW, subVW at one word. -/
import Derived.Test.YtggoncneinlpgaaGreatDoorM1
import Derived.Test.YtggoncneinlpgaaGreatDoorW3
import Derived.Laws.Twins
namespace Go.Proofs.YtggoncneinlpgaaGreatDoor
open Go Go.RowKit Nt

set_option maxRecDepth 100000 in
set_option maxHeartbeats 1000000 in
theorem addVV_one (a cap ax cx ay cy X Y : Nat) (cs : Array Value) (w : World) (hb : Blk w a cs 80) (h1 : 1 ≤ cs.size) (hx : w.cell? ⟨ax, 0, none⟩ = some (.int .u64 X)) (hy : w.cell? ⟨ay, 0, none⟩ = some (.int .u64 Y)) (hX : X < 18446744073709551616) (hY : Y < 18446744073709551616) :
    Calls Tryz.prog 29 #[.slice (some ⟨a, 0, none⟩) 1 cap, .slice (some ⟨ax, 0, none⟩) 1 cx, .slice (some ⟨ay, 0, none⟩) 1 cy] w fun e w' => e = .returned (.int .u64 (((X + Y) / 18446744073709551616 : Nat) : Int)) ∧
      ∃ cs', Blk w' a cs' 80 ∧ cs'.size = cs.size ∧ cs'[0]? = some (.int .u64 (((X + Y) % 18446744073709551616 : Nat) : Int)) ∧ (∀ j, j ≠ 0 → cs'[j]? = cs[j]?) ∧ Chg [a] w w' := by
  have HC := Lib.hid (fun w => badd_any X Y 0 w hX hY (by omega))
  simp only [Nat.add_zero] at HC
  obtain ⟨q, hq⟩ : ∃ q, (X + Y) / 18446744073709551616 = q := ⟨_, rfl⟩
  obtain ⟨r, hr⟩ : ∃ r, (X + Y) % 18446744073709551616 = r := ⟨_, rfl⟩
  rw [hq, hr] at HC ⊢
  clear hq hr
  have f0 := (hb.cell 0).trans (show cs[0]? = some (cs[0]'(by omega)) by simp)
  have g0 := hb.free 0
  generalize cs[0]'(by omega) = c0 at *
  go_enter Tryz.func29, Tryz.ntmps29
  go_wp2_with fail
  refine wp_loop_rounds 2 ?_
  rw [rounds_succ]
  go_wp2_with fail
  go_quiet ((go_at_call 66; exact Calls.quiet_of (HC.out _)))
  go_wp2_with fail
  rw [rounds_succ]
  go_wp2_with fail
  go_ret
  obtain ⟨cs', hb', hs', hs0, ho⟩ := Blk.of_set (w := w.drewN nq) (i := 0) hb (.int .u64 (r : Int)) (by omega)
  exact ⟨rfl, cs', hb', hs', hs0, ho, ((Chg.refl _ _).drewN nq).setCell (.inl (by simp)) _⟩

set_option maxRecDepth 100000 in
set_option maxHeartbeats 1000000 in
theorem subVV_one (a cap ax cx ay cy X Y : Nat) (cs : Array Value) (w : World) (hb : Blk w a cs 80) (h1 : 1 ≤ cs.size) (hx : w.cell? ⟨ax, 0, none⟩ = some (.int .u64 X)) (hy : w.cell? ⟨ay, 0, none⟩ = some (.int .u64 Y)) :
    Calls Tryz.prog 30 #[.slice (some ⟨a, 0, none⟩) 1 cap, .slice (some ⟨ax, 0, none⟩) 1 cx, .slice (some ⟨ay, 0, none⟩) 1 cy] w fun e w' => e = .returned (.int .u64 ((if X < Y then 1 else 0 : Nat) : Int)) ∧
      ∃ cs', Blk w' a cs' 80 ∧ cs'.size = cs.size ∧ cs'[0]? = some (.int .u64 (((X + 18446744073709551616 - Y) % 18446744073709551616 : Nat) : Int)) ∧ (∀ j, j ≠ 0 → cs'[j]? = cs[j]?) ∧ Chg [a] w w' := by
  have HC := Lib.hid (fun w => bsub_any X Y 0 w (by omega))
  simp only [Nat.add_zero, Nat.sub_zero] at HC
  obtain ⟨q, hq⟩ : ∃ q : Nat, (if X < Y then 1 else 0) = q := ⟨_, rfl⟩
  obtain ⟨r, hr⟩ : ∃ r, (X + 18446744073709551616 - Y) % 18446744073709551616 = r := ⟨_, rfl⟩
  rw [hq, hr] at HC ⊢
  clear hq hr
  have f0 := (hb.cell 0).trans (show cs[0]? = some (cs[0]'(by omega)) by simp)
  have g0 := hb.free 0
  generalize cs[0]'(by omega) = c0 at *
  go_enter Tryz.func30, Tryz.ntmps30
  go_wp2_with fail
  refine wp_loop_rounds 2 ?_
  rw [rounds_succ]
  go_wp2_with fail
  go_quiet ((go_at_call 69; exact Calls.quiet_of (HC.out _)))
  go_wp2_with fail
  rw [rounds_succ]
  go_wp2_with fail
  go_ret
  obtain ⟨cs', hb', hs', hs0, ho⟩ := Blk.of_set (w := w.drewN nq) (i := 0) hb (.int .u64 (r : Int)) (by omega)
  exact ⟨rfl, cs', hb', hs', hs0, ho, ((Chg.refl _ _).drewN nq).setCell (.inl (by simp)) _⟩

theorem addVV_enters (args : Array Value) (w : World) : (callFunc 63 args).run Tryz.prog w = .ok (.enter 29 args) w :=
  run_callFunc_twin (twin := "math/big.addVV_g") Tryz.func63 (by kernel_rfl) (by kernel_rfl) (by kernel_rfl) (by kernel_rfl) Tryz.func29 (by kernel_rfl) (by kernel_rfl) (by kernel_rfl) args w
theorem subVV_enters (args : Array Value) (w : World) : (callFunc 67 args).run Tryz.prog w = .ok (.enter 30 args) w :=
  run_callFunc_twin (twin := "math/big.subVV_g") Tryz.func67 (by kernel_rfl) (by kernel_rfl) (by kernel_rfl) (by kernel_rfl) Tryz.func30 (by kernel_rfl) (by kernel_rfl) (by kernel_rfl) args w

theorem infoW' : (Tryz.prog.info? 80).map (·.size) = some 1 := by kernel_rfl
theorem word_neq (p p' : Addr) (cs cs' : Array Value) (t t' : TypeId) (W : World) (hne : p ≠ p') (h : Blk W p.block cs t) (h' : Blk W p'.block cs' t') :
    (binOp .neq 156 (.pointer (some p)) (.pointer (some p'))).run Tryz.prog W = .ok (.bool true) W := by
  obtain ⟨j, hj, hs⟩ := Option.map_eq_some_iff.1 infoW'
  have h : ∀ d : Nat, (Op.equalIn (d + 1) 156 (.pointer (some p)) (.pointer (some p'))).run Tryz.prog W = .ok false W := fun d => by
    simp [Op.equalIn, run_underlying Tryz.underlying156, sizeOf, typeInfo, hj, hs, run_sameAddr_other W hne h h']
  simp only [binOp]
  simp [Op.equal, Op.maxDepth, h 9999]
theorem word_same (p : Addr) (W : World) : (binOp .neq 156 (.pointer (some p)) (.pointer (some p))).run Tryz.prog W = .ok (.bool false) W := by
  have h : ∀ d : Nat, (Op.equalIn (d + 1) 156 (.pointer (some p)) (.pointer (some p))).run Tryz.prog W = .ok true W := fun d => by
    simp [Op.equalIn, run_underlying Tryz.underlying156, run_sameAddr_same]
  simp only [binOp]
  simp [Op.equal, Op.maxDepth, h 9999]

set_option maxRecDepth 100000 in
set_option maxHeartbeats 1000000 in
theorem addVW_one (a cap ax cx X Y : Nat) (cs csx : Array Value) (w : World) (hb : Blk w a cs 80) (h1 : 2 ≤ cs.size) (_hc1 : 1 ≤ cap) (_hcx1 : 1 ≤ cx) (hbx : Blk w ax csx 80) (hx : w.cell? ⟨ax, 1, none⟩ = some (.int .u64 X)) (hX : X < 18446744073709551616) (hY : Y ≤ 1) :
    Calls Tryz.prog 64 #[.slice (some ⟨a, 1, none⟩) 1 cap, .slice (some ⟨ax, 1, none⟩) 1 cx, .int .u64 Y] w fun e w' => e = .returned (.int .u64 (((X + Y) / 18446744073709551616 : Nat) : Int)) ∧
      ∃ cs', Blk w' a cs' 80 ∧ cs'.size = cs.size ∧ cs'[1]? = some (.int .u64 (((X + Y) % 18446744073709551616 : Nat) : Int)) ∧ (∀ j, j ≠ 1 → cs'[j]? = cs[j]?) ∧ Chg [a] w w' := by
  have HC := Lib.hid (fun w => badd_any X Y 0 w hX (by omega) (by omega))
  simp only [Nat.add_zero] at HC
  have hq2 : (X + Y) / 18446744073709551616 = 0 ∨ (X + Y) / 18446744073709551616 = 1 := by omega
  have hcp : ∀ (d a : Option Addr) (dc sc : Nat) (w : World), (Builtin.copy_ #[59, 59] 3 #[.slice d 0 dc, .slice a 0 sc]).run Tryz.prog w = .ok (.int .i64 0) w := fun d a dc sc w =>
    run_copy_none (P := Tryz.prog) w _ _ _ 80 d a 0 dc 0 sc Tryz.underlying59 sizeW (by decide)
  obtain ⟨q, hq⟩ : ∃ q, (X + Y) / 18446744073709551616 = q := ⟨_, rfl⟩
  obtain ⟨r, hr⟩ : ∃ r, (X + Y) % 18446744073709551616 = r := ⟨_, rfl⟩
  rw [hq] at hq2
  rw [hq, hr] at HC ⊢
  clear hq hr
  have f0 := (hb.cell 1).trans (show cs[1]? = some (cs[1]'(by omega)) by simp)
  have g0 := hb.free 1
  generalize cs[1]'(by omega) = c0 at *
  rcases hq2 with rfl | rfl
  · go_enter Tryz.func64, Tryz.ntmps64
    go_wp2_with fail
    refine (HC.out _).mono ?_
    rintro e w1 ⟨rfl, m, rfl⟩
    go_wp2_with fail
    by_cases hax : a = ax
    · subst hax
      have hp := word_same ⟨a, 1, none⟩
      go_quiet (fail)
      go_wp2_with fail
      go_ret
      obtain ⟨cs', hb', hs', hs0, ho⟩ := Blk.of_set (w := w.drewN m) (i := 1) hb (.int .u64 (r : Int)) (by omega)
      exact ⟨rfl, cs', hb'.drewN _, hs', hs0, ho, (((Chg.refl _ _).drewN m).setCell (.inl (by simp)) _).drewN _⟩
    · have hp := fun k => word_neq ⟨a, 1, none⟩ ⟨ax, 1, none⟩ _ _ _ _ ((((w.drewN m).setCell ⟨a, 1, none⟩ (.int .u64 (r : Int)))).drewN k) (fun e => hax (congrArg Addr.block e)) (Blk.drewN (Blk.set (w := w.drewN m) (Blk.drewN hb m) 1 _) k) (Blk.drewN (Blk.set_other (w := w.drewN m) (Blk.drewN hbx m) (fun e => hax e.symm) _) k)
      go_quiet (fail)
      go_wp2_with fail
      go_quiet (fail)
      go_wp2_with fail
      all_goals
       go_ret
       obtain ⟨cs', hb', hs', hs0, ho⟩ := Blk.of_set (w := w.drewN m) (i := 1) hb (.int .u64 (r : Int)) (by omega)
       have hcg : Chg [a] w ((w.drewN m).setCell ⟨a, 1, none⟩ (.int .u64 (r : Int))) := ((Chg.refl _ _).drewN m).setCell (.inl (by simp)) _
       exact ⟨rfl, cs', hb'.drewN _, hs', hs0, ho, hcg.drewN _⟩
  · go_enter Tryz.func64, Tryz.ntmps64
    go_wp2_with fail
    refine (HC.out _).mono ?_
    rintro e w1 ⟨rfl, m, rfl⟩
    go_wp2_with fail
    refine wp_loop_rounds 1 ?_
    rw [rounds_succ]
    go_wp2_with fail
    go_ret
    obtain ⟨cs', hb', hs', hs0, ho⟩ := Blk.of_set (w := w.drewN m) (i := 1) hb (.int .u64 (r : Int)) (by omega)
    exact ⟨rfl, cs', hb', hs', hs0, ho, ((Chg.refl _ _).drewN m).setCell (.inl (by simp)) _⟩
set_option maxRecDepth 100000 in
set_option maxHeartbeats 1000000 in
theorem subVW_one (a cap ax cx X Y : Nat) (cs csx : Array Value) (w : World) (hb : Blk w a cs 80) (h1 : 2 ≤ cs.size) (_hc1 : 1 ≤ cap) (_hcx1 : 1 ≤ cx) (hbx : Blk w ax csx 80) (hx : w.cell? ⟨ax, 1, none⟩ = some (.int .u64 X)) (hY : Y ≤ X) (hX : X < 18446744073709551616) :
    Calls Tryz.prog 68 #[.slice (some ⟨a, 1, none⟩) 1 cap, .slice (some ⟨ax, 1, none⟩) 1 cx, .int .u64 Y] w fun e w' => e = .returned (.int .u64 0) ∧
      ∃ cs', Blk w' a cs' 80 ∧ cs'.size = cs.size ∧ cs'[1]? = some (.int .u64 ((X - Y : Nat) : Int)) ∧ (∀ j, j ≠ 1 → cs'[j]? = cs[j]?) ∧ Chg [a] w w' := by
  have HC := Lib.hid (fun w => bsub_any X Y 0 w (by omega))
  rw [show (X + 18446744073709551616 - Y - 0) % 18446744073709551616 = X - Y by omega, if_neg (show ¬ X < Y + 0 by omega)] at HC
  have hcp : ∀ (d a : Option Addr) (dc sc : Nat) (w : World), (Builtin.copy_ #[59, 59] 3 #[.slice d 0 dc, .slice a 0 sc]).run Tryz.prog w = .ok (.int .i64 0) w := fun d a dc sc w =>
    run_copy_none (P := Tryz.prog) w _ _ _ 80 d a 0 dc 0 sc Tryz.underlying59 sizeW (by decide)
  obtain ⟨r, hr⟩ : ∃ r, X - Y = r := ⟨_, rfl⟩
  rw [hr] at HC ⊢
  clear hr
  have f0 := (hb.cell 1).trans (show cs[1]? = some (cs[1]'(by omega)) by simp)
  have g0 := hb.free 1
  generalize cs[1]'(by omega) = c0 at *
  · go_enter Tryz.func68, Tryz.ntmps68
    go_wp2_with fail
    refine (HC.out _).mono ?_
    rintro e w1 ⟨rfl, m, rfl⟩
    go_wp2_with fail
    by_cases hax : a = ax
    · subst hax
      have hp := word_same ⟨a, 1, none⟩
      go_quiet (fail)
      go_wp2_with fail
      go_ret
      obtain ⟨cs', hb', hs', hs0, ho⟩ := Blk.of_set (w := w.drewN m) (i := 1) hb (.int .u64 (r : Int)) (by omega)
      exact ⟨rfl, cs', hb'.drewN _, hs', hs0, ho, (((Chg.refl _ _).drewN m).setCell (.inl (by simp)) _).drewN _⟩
    · have hp := fun k => word_neq ⟨a, 1, none⟩ ⟨ax, 1, none⟩ _ _ _ _ ((((w.drewN m).setCell ⟨a, 1, none⟩ (.int .u64 (r : Int)))).drewN k) (fun e => hax (congrArg Addr.block e)) (Blk.drewN (Blk.set (w := w.drewN m) (Blk.drewN hb m) 1 _) k) (Blk.drewN (Blk.set_other (w := w.drewN m) (Blk.drewN hbx m) (fun e => hax e.symm) _) k)
      go_quiet (fail)
      go_wp2_with fail
      go_quiet (fail)
      go_wp2_with fail
      all_goals
       go_ret
       obtain ⟨cs', hb', hs', hs0, ho⟩ := Blk.of_set (w := w.drewN m) (i := 1) hb (.int .u64 (r : Int)) (by omega)
       have hcg : Chg [a] w ((w.drewN m).setCell ⟨a, 1, none⟩ (.int .u64 (r : Int))) := ((Chg.refl _ _).drewN m).setCell (.inl (by simp)) _
       exact ⟨rfl, cs', hb'.drewN _, hs', hs0, ho, hcg.drewN _⟩
end Go.Proofs.YtggoncneinlpgaaGreatDoor
