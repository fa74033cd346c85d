/- Words on matrices as data; walks: few, lists. Walks: ints (its result is the call's own), lists. -/
import Derived.Test.YtggoncneinlpgaaGreatDoorR234
namespace Go.Proofs.YtggoncneinlpgaaGreatDoor
open Go Go.RowKit Nt

/-- The slice value v holds the rows m of integers. -/
def MatAt (w : World) (v : Value) (m : List (List Int)) : Prop :=
  ∃ o cap, v = .slice o m.length cap ∧ (m ≠ [] → ∃ b off, o = some ⟨b, off, none⟩ ∧ b < w.heap.size ∧ ∀ i (h : i < m.length), ∃ av, w.cell? ⟨b, off + i, none⟩ = some av ∧ SliceI w av m[i]) ∧ (o = none → cap = 0)

theorem MatAt.below {w w' : World} {v : Value} {m : List (List Int)} (h : MatAt w v m) {B1 : Nat} (hb : Below B1 w w') (hB : w.heap.size ≤ B1) : MatAt w' v m := by
  obtain ⟨o, cap, rfl, h, h0⟩ := h
  refine ⟨o, cap, rfl, fun hne => ?_, h0⟩
  obtain ⟨b, off, rfl, hlt, hc⟩ := h hne
  refine ⟨b, off, rfl, Nat.lt_of_lt_of_le hlt hb.size, fun i hi => ?_⟩
  obtain ⟨av, h1, h2⟩ := hc i hi
  exact ⟨av, (hb.cell (p := ⟨b, off + i, none⟩) (by simp; omega)).trans h1, h2.below hb hB⟩
theorem MatAt.get {w : World} {v : Value} {m : List (List Int)} (h : MatAt w v m) {k : Nat} (hk : k < m.length) :
    ∃ b off cap oa ca, v = .slice (some ⟨b, off, none⟩) m.length cap ∧ b < w.heap.size ∧ w.cell? ⟨b, off + k, none⟩ = some (.slice oa m[k].length ca) ∧ SliceI w (.slice oa m[k].length ca) m[k] := by
  obtain ⟨o, cap, rfl, h, _⟩ := h
  obtain ⟨b, off, rfl, hlt, hc⟩ := h (by intro e; subst e; simp at hk)
  obtain ⟨av, h1, h2⟩ := hc k hk
  obtain ⟨oa, ca, rfl, h3⟩ := h2
  exact ⟨b, off, cap, oa, ca, rfl, hlt, h1, oa, ca, rfl, h3⟩

/-- How many numbers are in the rows. -/
def manyM (m : List (List Int)) : Nat := m.foldl (fun n r => n + r.length) 0
theorem manyM_snoc (m : List (List Int)) (r : List Int) : manyM (m ++ [r]) = manyM m + r.length := by simp [manyM, List.foldl_append]
theorem foldl_manyM (l : List (List Int)) (r : List Int) : ∀ a : Nat, a ≤ l.foldl (fun n r => n + r.length) a ∧ (r ∈ l → r.length ≤ l.foldl (fun n r => n + r.length) a) := by
  induction l with
  | nil => intro a; simp
  | cons x l ih =>
    intro a
    obtain ⟨h1, h2⟩ := ih (a + x.length)
    simp only [List.foldl_cons]
    refine ⟨by omega, fun hm => ?_⟩
    rcases List.mem_cons.1 hm with rfl | hm
    · omega
    · exact h2 hm
theorem manyM_mem {m : List (List Int)} {r : List Int} (h : r ∈ m) : r.length ≤ manyM m := (foldl_manyM m r 0).2 h
theorem manyM_bound {m : List (List Int)} {M : Nat} (h : ∀ r ∈ m, r.length ≤ M) : manyM m ≤ m.length * M := by
  suffices H : ∀ (l : List (List Int)) (a : Nat), (∀ r ∈ l, r.length ≤ M) → l.foldl (fun n r => n + r.length) a ≤ a + l.length * M by
    have := H m 0 h
    unfold manyM
    omega
  intro l
  induction l with
  | nil => intro a _; simp
  | cons x l ih =>
    intro a hl
    have h1 := ih (a + x.length) (fun r hr => hl r (List.mem_cons_of_mem _ hr))
    have h2 := hl x (List.mem_cons_self ..)
    simp only [List.foldl_cons, List.length_cons, Nat.add_mul, Nat.one_mul]
    omega
/-- Few rows, of few numbers. -/
def fewB (m : List (List Int)) : Bool := decide (m.length ≤ 40) && decide (manyM m ≤ 400)
theorem few_len {m : List (List Int)} (h : fewB m = true) : m.length ≤ 40 ∧ ∀ r ∈ m, r.length ≤ 400 := by
  unfold fewB at h
  rw [Bool.and_eq_true, decide_eq_true_eq, decide_eq_true_eq] at h
  exact ⟨h.1, fun r hr => Nat.le_trans (manyM_mem hr) h.2⟩

set_option maxRecDepth 100000 in
set_option maxHeartbeats 1000000 in
theorem few_many (v : Value) (m : List (List Int)) (w : World) (hv : MatAt w v m) (h60 : 40 < m.length) (hl : m.length ≤ 140737488355328) :
    Calls Tryz.prog 5 #[v] w fun e w' => e = .returned (.bool false) ∧ w = w' := by
  obtain ⟨o, cap, rfl, hc, _⟩ := hv
  obtain ⟨n, hn⟩ : ∃ n, m.length = n := ⟨_, rfl⟩
  rw [hn] at hl h60 ⊢
  have HN := Lib.hid hn
  have HC := Lib.hid hc
  have hd : decide ((n : Int) ≤ 40) = false := by simp; omega
  clear hn hc
  go_enter Tryz.func5, Tryz.ntmps5
  go_wp2_with fail
  go_loop [3, 4] (fun s i => ∃ (k : Nat) (t : Int), k ≤ n ∧ i = .int .i64 k ∧ s = .int .i64 t) (fun _ i => n - (intOf i).toNat)
  case atStart => exact ⟨0, 0, Nat.zero_le _, rfl, rfl⟩
  case round =>
    obtain ⟨k, t, hk, rfl, rfl⟩ := hrel
    by_cases hlt : k < n
    · have hk' : k < m.length := by have := HN.out; omega
      obtain ⟨b, off, rfl, hbl, hcs⟩ := HC.out (by intro e; rw [e] at hk'; simp at hk')
      obtain ⟨av, h1, h3⟩ := hcs k hk'
      obtain ⟨oa, ca, rfl, hq⟩ := h3
      clear hq
      generalize (m[k]'hk').length = la at *
      clear hcs
      go_wp2_with fail
      go_round
      case rel => exact ⟨k + 1, _, by omega, by go_num, rfl⟩
      case measure => simp [intOf]; omega
    · obtain rfl : k = n := by omega
      go_wp2_with fail
      go_ret
      exact ⟨rfl, rfl⟩

set_option maxRecDepth 100000 in
set_option maxHeartbeats 1000000 in
theorem few_few (v : Value) (m : List (List Int)) (w : World) (hv : MatAt w v m) (h60 : m.length ≤ 40) (hM : ∀ r ∈ m, r.length ≤ 140737488355328) :
    Calls Tryz.prog 5 #[v] w fun e w' => e = .returned (.bool (fewB m)) ∧ w = w' := by
  have HW := Lib.hid (show fewB m = decide (manyM m ≤ 400) by unfold fewB; rw [decide_eq_true h60, Bool.true_and])
  have HM := Lib.hid hM
  obtain ⟨o, cap, rfl, hc, _⟩ := hv
  obtain ⟨n, hn⟩ : ∃ n, m.length = n := ⟨_, rfl⟩
  rw [hn] at h60 ⊢
  have HN := Lib.hid hn
  have HC := Lib.hid hc
  have hd : decide ((n : Int) ≤ 40) = true := by simp; omega
  clear hn hc hM
  go_enter Tryz.func5, Tryz.ntmps5
  go_wp2_with fail
  go_loop [3, 4] (fun s i => ∃ k : Nat, k ≤ n ∧ i = .int .i64 k ∧ s = .int .i64 (manyM (m.take k))) (fun _ i => n - (intOf i).toNat)
  case atStart => exact ⟨0, Nat.zero_le _, rfl, rfl⟩
  case round =>
    obtain ⟨k, hk, rfl, rfl⟩ := hrel
    have hb1 := manyM_bound (m := m.take k) (M := 140737488355328) (fun r hr => HM.out r (List.mem_of_mem_take hr))
    have hb2 : (m.take k).length ≤ k := by rw [List.length_take]; omega
    have hb3 := Nat.mul_le_mul_right 140737488355328 (Nat.le_trans hb2 hk)
    by_cases hlt : k < n
    · have hk' : k < m.length := by have := HN.out; omega
      obtain ⟨b, off, rfl, hbl, hcs⟩ := HC.out (by intro e; rw [e] at hk'; simp at hk')
      obtain ⟨av, h1, h3⟩ := hcs k hk'
      obtain ⟨oa, ca, rfl, hq⟩ := h3
      clear hq
      have hla := HM.out _ (List.getElem_mem hk')
      have HS := Lib.hid (manyM_snoc (m.take k) (m[k]'hk'))
      rw [← List.take_succ_eq_append_getElem hk'] at HS
      generalize (m[k]'hk').length = la at *
      obtain ⟨s, hs⟩ : ∃ s, manyM (m.take k) = s := ⟨_, rfl⟩
      rw [hs] at HS hb1 ⊢
      have hs1 : (s : Int) ≤ 40 * 140737488355328 := by omega
      have hs2 : (la : Int) ≤ 140737488355328 := by omega
      clear hcs hs hb1 hb2 hb3 hla
      go_wp2_with fail
      go_round
      case rel => exact ⟨k + 1, by omega, by go_num, by rw [HS.out]; go_num⟩
      case measure => simp [intOf]; omega
    · obtain rfl : k = n := by omega
      rw [List.take_of_length_le (by have := HN.out; omega)]
      have HR : fewB m = decide ((manyM m : Int) ≤ 400) := by rw [HW.out]; exact decide_eq_decide.2 (by omega)
      obtain ⟨s, hs⟩ : ∃ s, manyM m = s := ⟨_, rfl⟩
      rw [hs] at HR ⊢
      have HR' := Lib.hid HR
      clear HR hs hb1 hb2 hb3 HW
      by_cases h6 : (s : Int) ≤ 400
      · have h6' : decide ((s : Int) ≤ 400) = true := by simpa using h6
        have HR2 := Lib.hid (HR'.out.trans h6')
        clear h6
        go_wp2_with fail
        go_ret
        exact ⟨by rw [HR2.out]; rfl, rfl⟩
      · have h6' : decide ((s : Int) ≤ 400) = false := by simpa using h6
        have HR2 := Lib.hid (HR'.out.trans h6')
        clear h6
        go_wp2_with fail
        go_ret
        exact ⟨by rw [HR2.out]; rfl, rfl⟩

theorem few_any (v : Value) (m : List (List Int)) (w : World) (hv : MatAt w v m) (hl : m.length ≤ 140737488355328) (hM : ∀ r ∈ m, r.length ≤ 140737488355328) :
    Calls Tryz.prog 5 #[v] w fun e w' => e = .returned (.bool (fewB m)) ∧ w = w' := by
  by_cases h : m.length ≤ 40
  · exact few_few v m w hv h hM
  · have e : fewB m = false := by unfold fewB; rw [decide_eq_false h, Bool.false_and]
    rw [e]
    exact few_many v m w hv (by omega) hl
end Go.Proofs.YtggoncneinlpgaaGreatDoor
namespace Go.Proofs.YtggoncneinlpgaaGreatDoor
open Go Go.RowKit Nt

set_option maxRecDepth 100000 in
set_option maxHeartbeats 1000000 in
theorem ints_own (v : Value) (zs : List Int) (w : World) (hv : SliceI w v zs) (hl : zs.length ≤ 1000000) :
    Calls Tryz.prog 10 #[v] w fun e w' => ∃ u, e = .returned u ∧ w'.ownsRow w.heap.size 3 1 u zs.length (zs.map (Value.int .i64)) ∧ Below w.heap.size w w' := by
  obtain ⟨o, cap, rfl, hc⟩ := hv
  obtain ⟨i0, hi, hzz⟩ := Option.map_eq_some_iff.1 info3
  simp only [Prod.mk.injEq] at hzz
  obtain ⟨hz0, hz1, hz2⟩ := hzz
  have HI := Lib.hid hi
  have HZ0 := Lib.hid hz0
  have HZ1 := Lib.hid hz1
  have HZ2 := Lib.hid hz2
  clear hi hz0 hz1 hz2
  by_cases hne : zs = []
  · subst hne
    clear hc
    rcases o with _ | o
    all_goals
      go_enter Tryz.func10, Tryz.ntmps10
      go_wp2_with fail
      go_ret
      exact ⟨_, rfl, World.ownsRow_nil _ _ _ _, Below.refl _ _⟩
  · obtain ⟨b, off, rfl, hbl, hcs⟩ := hc hne
    have HS := Lib.hid hcs
    obtain ⟨n, hn⟩ : ∃ n, zs.length = n := ⟨_, rfl⟩
    rw [hn] at hl ⊢
    have HN := Lib.hid hn
    clear hc hne hcs hn
    go_enter Tryz.func10, Tryz.ntmps10
    go_wp2_with (at_builtin; refine wpList_append_own _ rfl (.tmp 4) (.tmp 5) 23 rfl w.heap.size 3 i0 (.int .i64 0) 1 8 Tryz.underlying23 HI.out HZ0.out HZ1.out HZ2.out rfl (by decide) (.slice none 0 0) 0 [] rfl (World.ownsRow_nil _ _ _ _) ⟨b, off, none⟩ n cap (zs.map (Value.int .i64)) rfl ?c0 ?c1 ?c2 ?c3 ?c4 ?c5 ?_)
    case c0 => have := HN.out; simp [this]
    case c1 =>
      intro j u hj
      rw [List.getElem?_map, Option.map_eq_some_iff] at hj
      obtain ⟨z, hz, rfl⟩ := hj
      obtain ⟨h, rfl⟩ := List.getElem?_eq_some_iff.1 hz
      have e : (⟨b, off, none⟩ : Addr).add j = ⟨b, off + j, none⟩ := by
        simp only [Addr.add]
        split
        · next h => subst h; rfl
        · rfl
      rw [e]
      exact HS.out j h
    case c2 => intro u hu; obtain ⟨z, _, rfl⟩ := List.mem_map.1 hu; rfl
    case c3 => unfold maxLen; omega
    case c4 => omega
    case c5 => exact Nat.le_refl _
    · intro v' w2 hown' hgrow _
      have hb : Below w.heap.size w w2 := (Below.refl _ _).grown hgrow (Nat.le_refl _) (fun k hk => by simp [Value.ownBlock] at hk)
      have hs := Lib.hid hown'
      clear hown' hgrow
      go_wp2
      go_ret
      exact ⟨_, rfl, hs.out, hb⟩


theorem own_ne {w : World} {b1 b2 e1 e2 s1 s2 n1 n2 : Nat} {v1 v2 : Value} {x1 x2 : List Value} (h1 : w.ownsRow b1 e1 s1 v1 n1 x1) (h2 : w.ownsRow b2 e2 s2 v2 n2 x2) (hne : e1 ≠ e2) : v1.ownBlock = none ∨ v1.ownBlock ≠ v2.ownBlock := by
  cases hv : v1.ownBlock with
  | none => exact .inl rfl
  | some g =>
    right
    intro e
    obtain ⟨c1, hc1⟩ := ownsRow_block h1 hv
    obtain ⟨c2, hc2⟩ := ownsRow_block h2 e.symm
    exact hne (hc1.type hc2).2
theorem own_down {w : World} {b1 b2 e size n : Nat} {v : Value} {xs : List Value} (h : w.ownsRow b2 e size v n xs) (hb : b1 ≤ b2) : w.ownsRow b1 e size v n xs := by
  rcases h.2 with h' | ⟨g, cap, cur, e1, hg, hr⟩
  · exact ⟨h.1, .inl h'⟩
  · exact ⟨h.1, .inr ⟨g, cap, cur, e1, by omega, hr⟩⟩
/-- A matrix of the call's own: the row of its rows, and each row. -/
structure OwnMat (w : World) (base : Nat) (ov : Value) (m : List (List Int)) (xs : List Value) : Prop where
  own : w.ownsRow base 23 1 ov m.length xs
  rows : ∀ i (h : i < m.length), ∃ av, xs[i]? = some av ∧ w.ownsRow base 3 1 av m[i].length (m[i].map (Value.int .i64))
theorem OwnMat.nil (w : World) (base : Nat) : OwnMat w base (.slice none 0 0) [] [] := ⟨World.ownsRow_nil _ _ _ _, fun i h => by simp at h⟩
theorem OwnMat.below {w w' : World} {base : Nat} {ov : Value} {m : List (List Int)} {xs : List Value} (h : OwnMat w base ov m xs) (hb : Below w.heap.size w w') : OwnMat w' base ov m xs :=
  ⟨ownsRow_below h.own hb (Nat.le_refl _), fun j hj => by
    obtain ⟨av, h1, h2⟩ := h.rows j hj
    exact ⟨av, h1, ownsRow_below h2 hb (Nat.le_refl _)⟩⟩
/-- Behind an append of one row. -/
theorem OwnMat.push {w w1 : World} {base : Nat} {ov v' av : Value} {m : List (List Int)} {xs : List Value} {r : List Int} (h : OwnMat w base ov m xs) (ha : w.ownsRow base 3 1 av r.length (r.map (Value.int .i64)))
    (hown : w1.ownsRow base 23 1 v' (m.length + 1) (xs ++ [av])) (hg : w.grownBy w1 ov.ownBlock) : OwnMat w1 base v' (m ++ [r]) (xs ++ [av]) := by
  have hl : xs.length = m.length := by have := h.own.1; omega
  refine ⟨by simpa using hown, fun i hi => ?_⟩
  have hi' : i < m.length + 1 := by simpa using hi
  by_cases e : i < m.length
  · obtain ⟨av', h1, h2⟩ := h.rows i e
    refine ⟨av', by rw [List.getElem?_append_left (by omega)]; exact h1, ?_⟩
    rw [List.getElem_append_left e]
    exact h2.kept hg (own_ne h2 h.own (by decide))
  · have : i = m.length := by omega
    subst this
    refine ⟨av, by rw [List.getElem?_append_right (by omega), hl]; simp, ?_⟩
    simp only [List.getElem_concat_length]
    exact ha.kept hg (own_ne ha h.own (by decide))
theorem OwnMat.matAt {w : World} {base : Nat} {ov : Value} {m : List (List Int)} {xs : List Value} (h : OwnMat w base ov m xs) : MatAt w ov m := by
  rcases h.own.2 with ⟨rfl, hn⟩ | ⟨g, cap, cur, rfl, hB, hb, h1, h2, h3, h4⟩
  · refine ⟨none, 0, by rw [hn], fun hne => ?_, fun _ => rfl⟩
    exact absurd (List.eq_nil_of_length_eq_zero hn) hne
  · refine ⟨some ⟨g, 0, none⟩, cap, rfl, fun _ => ⟨g, 0, rfl, (show Blk w g cur _ from hb).lt, fun i hi => ?_⟩, fun h => (by cases h)⟩
    obtain ⟨av, e1, e2⟩ := h.rows i hi
    refine ⟨av, ?_, ownsRow_sliceI e2⟩
    rw [Nat.zero_add, (show Blk w g cur _ from hb).cell, ← Array.getElem?_toList]
    have : (cur.toList.take (m.length * 1))[i]? = xs[i]? := by rw [h4]
    rw [List.getElem?_take_of_lt (by omega)] at this
    rw [this, e1]

theorem infoSl : (Tryz.prog.info? 23).map (fun i => (i.zero, i.size, i.bytes)) = some (some (.slice none 0 0), 1, 24) := by kernel_rfl

set_option maxRecDepth 100000 in
set_option maxHeartbeats 1000000 in
theorem lists_any (v : Value) (m : List (List Int)) (w : World) (hv : MatAt w v m) (hl : m.length ≤ 1000) (hM : ∀ r ∈ m, r.length ≤ 1000000) :
    Calls Tryz.prog 9 #[v] w fun e w' => ∃ u, e = .returned u ∧ MatAt w' u m ∧ Below w.heap.size w w' := by
  have HV := Lib.hid hv
  have HM := Lib.hid hM
  obtain ⟨i0, hi, hzz⟩ := Option.map_eq_some_iff.1 infoSl
  simp only [Prod.mk.injEq] at hzz
  obtain ⟨hz0, hz1, hz2⟩ := hzz
  have HI := Lib.hid hi
  have HZ0 := Lib.hid hz0
  have HZ1 := Lib.hid hz1
  have HZ2 := Lib.hid hz2
  clear hi hz0 hz1 hz2
  obtain ⟨o, cap, rfl, hc⟩ := hv
  clear hc hM
  obtain ⟨n, hn⟩ : ∃ n, m.length = n := ⟨_, rfl⟩
  rw [hn] at HV hl ⊢
  have HN := Lib.hid hn
  clear hn
  go_enter Tryz.func9, Tryz.ntmps9
  go_wp2_with fail
  go_loopw [3, 4] (fun ov i wr => ∃ (k : Nat) (xs : List Value), k ≤ n ∧ i = .int .i64 k ∧ OwnMat wr w.heap.size ov (m.take k) xs ∧ Below w.heap.size w wr) (fun _ i _ => n - (intOf i).toNat)
  case atStart => exact ⟨0, [], Nat.zero_le _, rfl, OwnMat.nil _ _, Below.refl _ _⟩
  case round =>
    obtain ⟨k, xs, hk, rfl, hown, hbw⟩ := hrel
    by_cases hlt : k < n
    · have hk' : k < m.length := by have := HN.out; omega
      obtain ⟨b, off, cap', oa, ca, e1, hbl, h2, h3⟩ := (HV.out.below hbw (Nat.le_refl _)).get hk'
      simp only [Value.slice.injEq] at e1
      obtain ⟨rfl, hnn, rfl⟩ := e1
      clear hnn
      have hla := HM.out _ (List.getElem_mem hk')
      have HT := Lib.hid (List.take_succ_eq_append_getElem hk')
      have HLT := Lib.hid (show (m.take k).length = k by rw [List.length_take]; omega)
      have HC := Lib.hid (ints_own _ m[k] wr h3 hla)
      obtain ⟨r, hr⟩ : ∃ r, m[k]'hk' = r := ⟨_, rfl⟩
      rw [hr] at h2 HC HT
      have HOWN := Lib.hid hown
      have HBW := Lib.hid hbw
      clear hr h3 hla hown hbw
      go_wp2_with fail
      refine HC.out.mono ?_
      rintro e w1 ⟨u, rfl, hu, hb1⟩
      obtain ⟨ou, cu, rfl⟩ : ∃ o c, u = .slice o r.length c := by
        rcases hu.2 with ⟨rfl, e⟩ | ⟨g, c, _, e, _⟩
        · exact ⟨none, 0, by rw [e]⟩
        · exact ⟨_, c, e⟩
      have HU := Lib.hid hu
      have HB1 := Lib.hid hb1
      have hownk := (HOWN.out.below hb1).own
      rw [HLT.out] at hownk
      have hsz := HBW.out.size
      have hsz1 := hb1.size
      clear hu hb1
      go_wp2_with (at_builtin; refine wpList_append_own _ rfl (.tmp 11) (.tmp 17) 22 rfl w.heap.size 23 i0 (.slice none 0 0) 1 24 Tryz.underlying22 HI.out HZ0.out HZ1.out HZ2.out rfl (by decide) _ k xs rfl (hownk.alloc _) ⟨w1.heap.size, 0, none⟩ 1 1 [.slice ou r.length cu] rfl rfl ?c1 ?c2 ?c3 ?c4 ?c5 ?_)
      case c1 =>
        intro j u hj
        match j, hj with
        | 0, hj => simp at hj; subst hj; simp [Addr.add]
      case c2 => intro u' hu'; simp at hu'; subst hu'; rfl
      case c3 => unfold maxLen; omega
      case c4 => omega
      case c5 => simp; omega
      · intro v' w2 hown' hgrow _
        have hb1a : Below w1.heap.size w1 (w1.alloc (.cells #[.slice ou r.length cu] 23)) := (Below.refl _ _).alloc (Nat.le_refl _) _
        have hO := ((HOWN.out.below HB1.out).below hb1a).push (r := r) (own_down (ownsRow_below HU.out hb1a (Nat.le_refl _)) hsz) (by rw [HLT.out]; exact hown') hgrow
        rw [← HT.out] at hO
        have hbw2 : Below w.heap.size w w2 := ((HBW.out.trans (HB1.out.mono hsz)).alloc (by omega) _).grown hgrow (by simp; omega) (fun k hk => (hownk.lt k hk).1)
        have HO := Lib.hid hO
        clear hO hown' hgrow hownk hb1a
        go_wp2
        go_roundw
        case rel => exact ⟨k + 1, _, by omega, by go_num, HO.out, hbw2⟩
        case measure => simp [intOf]; omega
    · obtain rfl : k = n := by omega
      have HR := Lib.hid hown.matAt
      rw [List.take_of_length_le (by have := HN.out; omega)] at HR
      clear hown
      go_wp2
      go_ret
      exact ⟨_, rfl, HR.out, hbw⟩
end Go.Proofs.YtggoncneinlpgaaGreatDoor
