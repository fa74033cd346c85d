/- Walk: (exact.Row).Normal at numbers of one word. Walk: exact.Told of one row. -/
import Derived.Test.YtggoncneinlpgaaGreatDoorRowF
import Derived.Test.YtggoncneinlpgaaGreatDoorW89
import Derived.Deep.OwnRows
namespace Go.Proofs.YtggoncneinlpgaaGreatDoor
open Go Go.RowKit Nt

/-- What divides all. -/
def gcdZ (zs : List Int) : Nat := zs.foldl (fun g z => Nat.gcd g z.natAbs) 0
/-- All are of one word. -/
def One (zs : List Int) : Prop := ∀ z ∈ zs, z.natAbs < 18446744073709551616

theorem gcdZ_snoc (zs : List Int) (z : Int) : gcdZ (zs ++ [z]) = Nat.gcd (gcdZ zs) z.natAbs := by simp [gcdZ, List.foldl_append]
theorem gcd_lt {a b M : Nat} (ha : a < M) (hb : b < M) : Nat.gcd a b < M := by
  rcases Nat.eq_zero_or_pos a with rfl | h
  · simpa using hb
  · exact Nat.lt_of_le_of_lt (Nat.gcd_le_left b h) ha
theorem foldl_gcd_lt {zs : List Int} (h : One zs) : ∀ g, g < 18446744073709551616 → zs.foldl (fun g z => Nat.gcd g z.natAbs) g < 18446744073709551616 := by
  induction zs with
  | nil => intro g hg; exact hg
  | cons z zs ih =>
    intro g hg
    exact ih (fun x hx => h x (List.mem_cons_of_mem _ hx)) _ (gcd_lt hg (h z (List.mem_cons_self ..)))
theorem gcdZ_lt {zs : List Int} (h : One zs) : gcdZ zs < 18446744073709551616 := foldl_gcd_lt h 0 (by omega)
theorem One.take {zs : List Int} (h : One zs) (k : Nat) : One (zs.take k) := fun z hz => h z (List.mem_of_mem_take hz)

/-- A row, divided by what divides all. -/
def normZ (zs : List Int) : List Int := if gcdZ zs = 0 then zs else zs.map fun z => z.tdiv (gcdZ zs)

def RowRes (w : World) (B0 : Nat) (zs : List Int) (e : Ending) (w' : World) : Prop := ∃ v, e = .returned v ∧ RowAt w' B0 v zs ∧ Below w.heap.size w w'

theorem RowAt.mono {w : World} {B0 B1 : Nat} {v : Value} {zs : List Int} (h : RowAt w B0 v zs) (hB : B1 ≤ B0) : RowAt w B1 v zs := by
  obtain ⟨ps, h1, h2⟩ := h
  refine ⟨ps, ⟨h1.1, ?_⟩, fun i hi => ?_⟩
  · rcases h1.2 with h | ⟨g, cap, cur, h3, h4, h5⟩
    · exact .inl h
    · exact .inr ⟨g, cap, cur, h3, by omega, h5⟩
  · obtain ⟨p, hp, ha⟩ := h2 i hi
    exact ⟨p, hp, ha.mono fun k _ hk => by omega⟩

set_option maxRecDepth 100000 in
set_option maxHeartbeats 2000000 in
theorem normal_any (v : Value) (zs : List Int) (B0 : Nat) (w : World) (hv : RowAt w B0 v zs) (hB0 : B0 ≤ w.heap.size) (h1 : One zs) (hl : zs.length ≤ 1000000) : Calls Tryz.prog 87 #[v] w (RowRes w B0 (normZ zs)) := by
  obtain ⟨i0, hi, hzz⟩ := Option.map_eq_some_iff.1 infoP
  simp only [Prod.mk.injEq] at hzz
  obtain ⟨hz0, hz1, hz2⟩ := hzz
  have HI := Lib.hid hi
  have HZ0 := Lib.hid hz0
  have HZ1 := Lib.hid hz1
  have HZ2 := Lib.hid hz2
  clear hi hz0 hz1 hz2
  obtain ⟨ps, hrow⟩ := hv
  obtain ⟨o, cap, rfl, _, _⟩ := hrow.form
  obtain ⟨n, hn⟩ : ∃ n, zs.length = n := ⟨_, rfl⟩
  have HROW := Lib.hid hrow
  rw [hn] at hl
  have HN := Lib.hid hn
  rw [hn]
  clear hn hrow
  go_enter Tryz.func87, Tryz.ntmps87
  go_wp2
  go_loopw [12] (fun i wr => ∃ (k : Nat) (S : List Nat), k ≤ n ∧ i = .int .i64 k ∧ IntF wr w.heap.size (gcdZ (zs.take k)) S ∧ (∀ x, x ∈ S → w.heap.size ≤ x) ∧ Below w.heap.size w wr) (fun i _ => n - (intOf i).toNat)
  case atStart => exact ⟨0, _, Nat.zero_le _, rfl, by simpa [gcdZ] using intF_new w, by simp, (Below.refl _ _).alloc (Nat.le_refl _) _⟩
  case round =>
    obtain ⟨k, S, hk, rfl, hg, hS, hb⟩ := hrel
    by_cases hlt : k < n
    · have hk' : k < zs.length := by have := HN.out; omega
      obtain ⟨a, cap', ha, _, _, hcs⟩ := HROW.out.cell (by omega)
      obtain ⟨p, hp, hc⟩ := hcs k hk'
      obtain ⟨p', hp', bz, Sz, rfl, hz, hSz⟩ := HROW.out.ints k hk'
      rw [hp] at hp'
      obtain rfl := Option.some.inj hp'
      simp only [Value.slice.injEq] at ha
      obtain ⟨rfl, _, rfl⟩ := ha
      have hcell : wr.cell? ⟨a, k, none⟩ = some (.pointer (some ⟨bz, 0, none⟩)) := (hb.cell (p := ⟨a, k, none⟩) (by assumption)).trans hc
      have hz' : IntF wr bz zs[k] Sz := hz.below hb hz.lt
      have hone : zs[k].natAbs < 18446744073709551616 := h1 _ (List.getElem_mem hk')
      have hgl := gcdZ_lt (h1.take k)
      have hlz : (dg zs[k].natAbs).length ≤ 1000000 := by have := @dg_length_le zs[k].natAbs 1 (by rw [B_eq]; omega); omega
      have HG := Lib.hid (gcdZ_snoc (zs.take k) zs[k])
      rw [← List.take_succ_eq_append_getElem hk'] at HG
      obtain ⟨z, hzk⟩ : ∃ z, zs[k] = z := ⟨_, rfl⟩
      rw [hzk] at hz' hone hlz HG
      clear hzk hcs hz hSz hp
      go_wp2_with fail
      refine (abs_any wr.heap.size bz 0 z _ _ _ (intF_new wr) (hz'.to fun k hk => Below.heap_alloc _ _ _ (hz'.lt k hk)) hlz).mono ?_
      rintro e w1 ⟨S1, rfl, hf1, hS1, hc1⟩
      have hg1 : IntF w1 w.heap.size (gcdZ (zs.take k)) S := hg.to fun x hx => by
        rw [hc1.block x (by have := hg.lt x hx; simp; omega) (by have := hg.lt x hx; simp; omega)]
        exact Below.heap_alloc _ _ _ (hg.lt x hx)
      go_wp2_with fail
      refine (gcd_any w.heap.size w.heap.size wr.heap.size (gcdZ (zs.take k)) (gcdZ (zs.take k)) z.natAbs S S S1 w1 hg1 hg1 hf1 (by simpa using hgl) (by simpa using hone)).mono ?_
      rintro e w2 ⟨S2, rfl, hf2, hS2, hc2⟩
      simp only [Int.natAbs_natCast, ← HG.out] at hf2
      have hb1 : Below w.heap.size w w1 := (hb.alloc hb.size _).trans (hc1.below (by have := hb.size; simp; omega) (by have := hb.size; simp; omega))
      have hb2 : Below w.heap.size w w2 := hb1.trans (hc2.below hb1.size hS)
      have hS2' : ∀ x, x ∈ S2 → w.heap.size ≤ x := fun x hx => by
        rcases hS2 x hx with h | h
        · exact hS x h
        · exact Nat.le_trans hb1.size h
      clear hf1 hS1 hc1 hg1 hS2 hc2 hg hS hb hb1 hz'
      go_wp2
      go_roundw
      case rel => exact ⟨k + 1, S2, by omega, by go_num, hf2, hS2', hb2⟩
      case measure => simp [intOf]; omega
    · obtain rfl : k = n := by omega
      have hg' : IntF wr w.heap.size (gcdZ zs) S := by
        have := HN.out
        rwa [List.take_of_length_le (by omega)] at hg
      clear hg
      have hs := Lib.hid (sign_any w.heap.size _ S wr hg')
      by_cases hg0 : gcdZ zs = 0
      · have e : ((gcdZ zs : Nat) : Int).sign = 0 := by rw [hg0]; rfl
        rw [e] at hs
        go_wp2_with (go_at_call 20; refine hs.out.mono ?_; rintro e w' ⟨rfl, rfl⟩)
        go_ret
        refine ⟨_, rfl, ?_, hb⟩
        rw [normZ, if_pos hg0]
        have := HN.out
        rw [← this]
        exact RowAt.below ⟨ps, HROW.out⟩ hb (Nat.le_refl _)
      · have e : ((gcdZ zs : Nat) : Int).sign = 1 := Int.sign_eq_one_of_pos (by omega)
        rw [e] at hs
        go_wp2_with (go_at_call 20; refine hs.out.mono ?_; rintro e w' ⟨rfl, rfl⟩)
        have HG0 := Lib.hid hg0
        have hgl := gcdZ_lt h1
        clear hs e hg0
        have hk8 : (k : Int) ≤ 1000000 := by omega
        obtain ⟨w0, rfl⟩ : ∃ w0 : World, w0 = wr := ⟨_, rfl⟩
        go_loopw [6, 29] (fun r i wx => ∃ (j : Nat) (qs : List Value), j ≤ k ∧ i = .int .i64 j ∧ RowP wx w0.heap.size r ((zs.take j).map fun z => z.tdiv (gcdZ zs)) qs ∧ Below w0.heap.size w0 wx) (fun _ i _ => k - (intOf i).toNat)
        case atStart => exact ⟨0, [], Nat.zero_le _, rfl, by simpa using RowP.nil w0 _, Below.refl _ _⟩
        case round =>
          obtain ⟨j, qs, hj, rfl, hrow, hbx⟩ := hrel
          by_cases hlt : j < k
          · have hj' : j < zs.length := by have := HN.out; omega
            obtain ⟨a, cap', ha, _, _, hcs⟩ := HROW.out.cell (by omega)
            obtain ⟨p, hp, hc⟩ := hcs j hj'
            obtain ⟨p', hp', bz, Sz, rfl, hz, hSz⟩ := HROW.out.ints j hj'
            rw [hp] at hp'
            obtain rfl := Option.some.inj hp'
            simp only [Value.slice.injEq] at ha
            obtain ⟨rfl, _, rfl⟩ := ha
            have hbw := hb.trans (hbx.mono hb.size)
            have hcell : wr.cell? ⟨a, j, none⟩ = some (.pointer (some ⟨bz, 0, none⟩)) := (hbw.cell (p := ⟨a, j, none⟩) (by assumption)).trans hc
            have hz' : IntF wr bz zs[j] Sz := hz.below hbw hz.lt
            have hgx : IntF wr w.heap.size (gcdZ zs) S := hg'.below hbx hg'.lt
            have hone : zs[j].natAbs < 18446744073709551616 := h1 _ (List.getElem_mem hj')
            have hlen : ((zs.take j).map fun z => z.tdiv (gcdZ zs)).length = j := by rw [List.length_map, List.length_take]; omega
            have HT := Lib.hid (List.take_succ_eq_append_getElem hj')
            obtain ⟨z, hzk⟩ : ∃ z, zs[j] = z := ⟨_, rfl⟩
            rw [hzk] at hz' hone HT
            have HLEN := Lib.hid hlen
            have hbl := hz.lt
            clear hzk hcs hz hSz hp hlen
            go_wp2_with fail
            refine (quo_any wr.heap.size bz w.heap.size 0 z (gcdZ zs) _ _ _ _ (intF_new wr) (hz'.to fun k hk => Below.heap_alloc _ _ _ (hz'.lt k hk)) (hgx.to fun k hk => Below.heap_alloc _ _ _ (hgx.lt k hk))
              (by have := hbw.size; have := hbl bz (by obtain ⟨_, _, _, _, rfl⟩ := hz'; simp); omega) (by have := hgx.lt w.heap.size (by obtain ⟨_, _, _, _, rfl⟩ := hgx; simp); omega) hone (by have := HG0.out; omega) (by simpa using hgl)).mono ?_
            rintro e w1 ⟨S1, rfl, hf1, hS1, hc1⟩
            have hb1 : Below w0.heap.size w0 w1 := (hbx.alloc hbx.size _).trans (hc1.below (by have := hbx.size; simp; omega) (by have := hbx.size; simp; omega))
            have hb1' : Below wr.heap.size wr w1 := ((Below.refl _ _).alloc (Nat.le_refl _) _).trans (hc1.below (by simp) (by simp))
            have hrow1 := hrow.below hb1' (Nat.le_refl _)
            have hown1 := hrow1.own
            rw [HLEN.out] at hown1
            have hp : IntAt w1 (fun k => w0.heap.size ≤ k) (.pointer (some ⟨wr.heap.size, 0, none⟩)) (z.tdiv (gcdZ zs)) := ⟨_, S1, rfl, hf1, fun x hx => by
              rcases hS1 x hx with h | h
              · simp at h; have := hbx.size; omega
              · simp at h; have := hbx.size; omega⟩
            clear hf1 hS1 hc1 hb1' hrow hbx hbw hz' hgx hbl
            go_wp2_with (at_builtin; refine wpList_append_own _ rfl (.tmp 33) (.tmp 38) 47 rfl w0.heap.size 49 i0 (.pointer none) 1 8 Tryz.underlying47 HI.out HZ0.out HZ1.out HZ2.out rfl (by decide) _ j qs rfl (hown1.alloc _) ⟨w1.heap.size, 0, none⟩ 1 1 [.pointer (some ⟨wr.heap.size, 0, none⟩)] rfl rfl ?c1 ?c2 ?c3 ?c4 ?c5 ?_)
            case c1 =>
              intro j u hj
              match j, hj with
              | 0, hj => simp at hj; subst hj; simp [Addr.add]
            case c2 => intro u hu; simp at hu; subst hu; rfl
            case c3 => unfold maxLen; omega
            case c4 => omega
            case c5 => have := hb1.size; simp; omega
            · intro v' w2 hown' hgrow _
              have hpush := hrow1.push hp (by rw [HLEN.out]; exact hown') hgrow
              rw [show ((zs.take j).map fun z => z.tdiv (gcdZ zs)) ++ [z.tdiv (gcdZ zs)] = (zs.take (j + 1)).map fun z => z.tdiv (gcdZ zs) by rw [HT.out, List.map_append]; rfl] at hpush
              have hbw2 : Below w0.heap.size w0 w2 := (hb1.alloc hb1.size _).grown hgrow (by have := hb1.size; simp; omega) (fun k hk => (hown1.lt k hk).1)
              clear hown' hgrow hown1 hrow1 hp hb1
              go_wp2
              go_roundw
              case rel => exact ⟨j + 1, _, by omega, by go_num, hpush, hbw2⟩
              case measure => simp [intOf]; omega
          · obtain rfl : j = k := by omega
            have HTT := Lib.hid (List.take_of_length_le (l := zs) (i := j) (by have := HN.out; omega))
            go_wp2
            go_ret
            refine ⟨_, rfl, ?_, hb.trans (hbx.mono hb.size)⟩
            rw [normZ, if_neg HG0.out]
            rw [HTT.out] at hrow
            exact RowAt.mono ⟨qs, hrow⟩ (Nat.le_trans hB0 hb.size)
end Go.Proofs.YtggoncneinlpgaaGreatDoor
namespace Go.Proofs.YtggoncneinlpgaaGreatDoor
open Go Go.RowKit Nt

/-- All can be told. -/
def Fit (zs : List Int) : Prop := ∀ z ∈ zs, z.natAbs ≤ 4611686018427387904

theorem info3 : (Tryz.prog.info? 3).map (fun i => (i.zero, i.size, i.bytes)) = some (some (.int .i64 0), 1, 8) := by kernel_rfl
theorem info22 : (Tryz.prog.info? 23).map (fun i => (i.zero, i.size, i.bytes)) = some (some (.slice none 0 0), 1, 24) := by kernel_rfl

/-- Told of one row that fits: one list of just these numbers, in new memory. -/
def ToldYes (w : World) (zs : List Int) (e : Ending) (w' : World) : Prop :=
  ∃ o c bl cl csl, e = .returned (.tuple #[.slice (some ⟨o, 0, none⟩) 1 c, .bool true]) ∧ w'.cell? ⟨o, 0, none⟩ = some (.slice (some ⟨bl, 0, none⟩) zs.length cl) ∧
    Blk w' bl csl 3 ∧ csl.size = zs.length ∧ (∀ i (h : i < zs.length), csl[i]? = some (.int .i64 zs[i])) ∧ w.heap.size ≤ o ∧ w.heap.size ≤ bl ∧ o < w'.heap.size ∧ Below w.heap.size w w'

set_option maxRecDepth 100000 in
set_option maxHeartbeats 2000000 in
theorem told_one (b cap : Nat) (rv : Value) (zs : List Int) (B0 : Nat) (w : World) (hcell : w.cell? ⟨b, 0, none⟩ = some rv) (hbl : b < w.heap.size) (hrow : RowAt w B0 rv zs) (hfit : Fit zs) (hl : zs.length ≤ 1000000) :
    Calls Tryz.prog 39 #[.slice (some ⟨b, 0, none⟩) 1 cap] w (ToldYes w zs) := by
  obtain ⟨i0, hi, hzz⟩ := Option.map_eq_some_iff.1 info22
  simp only [Prod.mk.injEq] at hzz
  obtain ⟨hz0, hz1, hz2⟩ := hzz
  have HI := Lib.hid hi
  have HZ0 := Lib.hid hz0
  have HZ1 := Lib.hid hz1
  have HZ2 := Lib.hid hz2
  clear hi hz0 hz1 hz2
  obtain ⟨ps, hrow⟩ := hrow
  obtain ⟨o, rcap, rfl, _, _⟩ := hrow.form
  obtain ⟨n, hn⟩ : ∃ n, zs.length = n := ⟨_, rfl⟩
  have HROW := Lib.hid hrow
  rw [hn] at hl hcell
  have HN := Lib.hid hn
  clear hn hrow
  have hmk := run_make_row' (P := Tryz.prog) 23 3 (.int .i64 0) 8 Tryz.underlying23 info3 rfl .i64 .i64 n (by omega) (by omega)
  go_enter Tryz.func39, Tryz.ntmps39
  go_wp2_with fail
  refine (newInt_any 4611686018427387904 w (by omega) (by omega)).mono ?_
  rintro e w1 ⟨bm, Sm, rfl, hm, hSm, hb1⟩
  have hc1 : w1.cell? ⟨b, 0, none⟩ = some (.slice o n rcap) := (hb1.cell (p := ⟨b, 0, none⟩) hbl).trans hcell
  go_wp2_with fail
  refine wp_loop_rounds 2 ?_
  rw [rounds_succ]
  go_wp2_with fail
  have hbw1 : Below w.heap.size w w1 := hb1
  go_loopw [23] (fun i wr => ∃ (j : Nat) (csl : Array Value), j ≤ n ∧ i = .int .i64 j ∧ Blk wr w1.heap.size csl 3 ∧ Hid (csl.size = n) ∧ Hid (∀ i (h : i < zs.length), i < j → csl[i]? = some (.int .i64 zs[i])) ∧ Below w1.heap.size w1 wr) (fun i _ => n - (intOf i).toNat)
  case atStart => exact ⟨0, _, Nat.zero_le _, rfl, Blk.new _ _ _, size_madeCells _ _, fun i h h0 => by omega, (Below.refl _ _).alloc (Nat.le_refl _) _⟩
  case round =>
    obtain ⟨j, csl, hj, rfl, hblk, hsz, hcs, hbx⟩ := hrel
    have hbw := hbw1.trans (hbx.mono hbw1.size)
    by_cases hlt : j < n
    · have hj' : j < zs.length := by have := HN.out; omega
      obtain ⟨a, cap', ha, _, hac, hcells⟩ := HROW.out.cell (by omega)
      obtain ⟨p, hp, hc⟩ := hcells j hj'
      obtain ⟨p', hp', bz, Sz, rfl, hz, hSz⟩ := HROW.out.ints j hj'
      rw [hp] at hp'
      obtain rfl := Option.some.inj hp'
      simp only [Value.slice.injEq] at ha
      obtain ⟨rfl, _, rfl⟩ := ha
      have hcz : wr.cell? ⟨a, j, none⟩ = some (.pointer (some ⟨bz, 0, none⟩)) := (hbw.cell (p := ⟨a, j, none⟩) hac).trans hc
      have hz' : IntF wr bz zs[j] Sz := hz.below hbw hz.lt
      have hm' : IntF wr bm 4611686018427387904 Sm := hm.below hbx hm.lt
      have hle : zs[j].natAbs ≤ 4611686018427387904 := hfit _ (List.getElem_mem hj')
      have hcmp : decide (0 < cmpI zs[j].natAbs (4611686018427387904 : Int).natAbs) = false := by
        unfold cmpI
        have : (4611686018427387904 : Int).natAbs = 4611686018427387904 := rfl
        rw [this]
        simp only [decide_eq_false_iff_not]
        split
        · omega
        · split <;> omega
      obtain ⟨cv, hcv⟩ : ∃ c, cmpI zs[j].natAbs (4611686018427387904 : Int).natAbs = c := ⟨_, rfl⟩
      have hcall := Lib.hid (cmpAbs_any bz bm zs[j] 4611686018427387904 _ _ wr hz' hm')
      rw [hcv] at hcmp hcall
      have HJ := Lib.hid hj'
      have h64 : ∀ q, Hid (Calls Tryz.prog 60 #[.pointer (some ⟨bz, 0, none⟩)] (wr.drewN q) fun e w' => e = .returned (.int .i64 zs[j]) ∧ w' = wr.drewN q) := fun q => int64_any bz zs[j] Sz (wr.drewN q) hz' (by omega) (by omega)
      have hcx := (hblk.cell j).trans (show csl[j]? = some (csl[j]'(by have := hsz.out; omega)) by simp)
      have hcf := hblk.free j
      have hjk : j < csl.size := by have := hsz.out; omega
      obtain ⟨z, hzk⟩ : ∃ z, zs[j] = z := ⟨_, rfl⟩
      have hcsn : ∀ csl' : Array Value, csl'.size = csl.size → csl'[j]? = some (.int .i64 zs[j]) → (∀ i, i ≠ j → csl'[i]? = csl[i]?) → Hid (csl'.size = n) ∧ Hid (∀ i (h : i < zs.length), i < j + 1 → csl'[i]? = some (.int .i64 zs[i])) := fun csl' h1 h2 h3 => ⟨h1.trans hsz.out, fun i hi hlt' => by
        by_cases e : i = j
        · subst e; exact h2
        · rw [h3 i e]; exact hcs.out i hi (by omega)⟩
      simp only [hzk] at h64
      generalize csl[j]'(by have := hsz.out; omega) = old at hcx
      have HZK := Lib.hid hzk
      clear hzk hcv hc hcells hp hz hSz hz' hm' hle hj'
      go_wp2_with fail
      refine hcall.out.mono ?_
      rintro e w2 ⟨rfl, q, rfl⟩
      go_wp2_with fail
      refine (h64 q).out.mono ?_
      rintro e w2 ⟨rfl, rfl⟩
      obtain ⟨csl', hb', hs', hv', ho'⟩ := Blk.of_set (w := wr.drewN q) (i := j) (Blk.drewN hblk q) (.int .i64 z) hjk
      obtain ⟨H1, H2⟩ := hcsn csl' hs' (by rw [HZK.out]; exact hv') ho'
      have hbn : Below w1.heap.size w1 ((wr.drewN q).setCell ⟨w1.heap.size, j, none⟩ (.int .i64 z)) := Below.setCell (p := ⟨w1.heap.size, j, none⟩) (below_drewN' hbx q) (Nat.le_refl _) _
      clear hs' hv' ho' hcsn hblk hcs hsz h64 hcall
      go_wp2
      go_roundw
      case rel => exact ⟨j + 1, csl', by omega, by go_num, hb', H1, H2, hbn⟩
      case measure => simp [intOf]; omega
    · obtain rfl : j = n := by omega
      have hcnone : wr.heap.size ≠ w1.heap.size := by have := hblk.lt; omega
      go_wp2_with fail
      rw [rounds_succ]
      go_wp2
      go_ret2
      have hN := HN.out
      have hsz1 := hbw.size
      have hsz2 := hbw1.size
      refine ⟨wr.heap.size + 1, _, w1.heap.size, j, csl, rfl, ?_, ?_, hsz.out.trans hN.symm, fun i hi => hcs.out i hi (by omega), by omega, hsz2, by simp, ?_⟩
      · rw [hN]
        have h := (Blk.new (wr.alloc (.cells #[.slice (some ⟨w1.heap.size, 0, none⟩) j j] 23)) (#[Value.slice (some ⟨w1.heap.size, 0, none⟩) j j] ++ Builtin.zeroCells #[Value.slice none 0 0] ((Question.appendCap 1 0 23).cut (wr.tape wr.drawn (Question.appendCap 1 0 23)) - 1)) 23).drew
        have h2 := h.cell 0
        simp only [World.size_alloc] at h2
        exact h2.trans ((Array.getElem?_append_left (by simp)).trans rfl)
      · exact ((hblk.alloc _).alloc _).drew
      · exact ((hbw.alloc hsz1 _).alloc (by simp; omega) _).drew
end Go.Proofs.YtggoncneinlpgaaGreatDoor
