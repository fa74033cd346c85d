/- Walk: (exact.Row).Normal at numbers of one word. -/
import Derived.Test.YtochcofoknfjfaaGreatDoorX1
import Derived.Test.YtochcofoknfjfaaGreatDoorW9
namespace Go.Proofs.YtochcofoknfjfaaGreatDoor
open Go Go.RowKit Nt

/-- What divides all. -/
def gcdZ (zs : List Int) : Nat := zs.foldl (fun g z => Nat.gcd g z.natAbs) 0
/-- All are of one word. -/
def One (zs : List Int) : Prop := ∀ z ∈ zs, z.natAbs < 18446744073709551616

theorem gcdZ_snoc (zs : List Int) (z : Int) : gcdZ (zs ++ [z]) = Nat.gcd (gcdZ zs) z.natAbs := by simp [gcdZ, List.foldl_append]
theorem gcd_lt {a b M : Nat} (ha : a < M) (hb : b < M) : Nat.gcd a b < M := by
  rcases Nat.eq_zero_or_pos a with rfl | h
  · simpa using hb
  · exact Nat.lt_of_le_of_lt (Nat.gcd_le_left b h) ha
theorem foldl_gcd_lt {zs : List Int} (h : One zs) : ∀ g, g < 18446744073709551616 → zs.foldl (fun g z => Nat.gcd g z.natAbs) g < 18446744073709551616 := by
  induction zs with
  | nil => intro g hg; exact hg
  | cons z zs ih =>
    intro g hg
    exact ih (fun x hx => h x (List.mem_cons_of_mem _ hx)) _ (gcd_lt hg (h z (List.mem_cons_self ..)))
theorem gcdZ_lt {zs : List Int} (h : One zs) : gcdZ zs < 18446744073709551616 := foldl_gcd_lt h 0 (by omega)
theorem One.take {zs : List Int} (h : One zs) (k : Nat) : One (zs.take k) := fun z hz => h z (List.mem_of_mem_take hz)

/-- A row, divided by what divides all. -/
def normZ (zs : List Int) : List Int := if gcdZ zs = 0 then zs else zs.map fun z => z.tdiv (gcdZ zs)

def RowRes (w : World) (B0 : Nat) (zs : List Int) (e : Ending) (w' : World) : Prop := ∃ v, e = .returned v ∧ RowAt w' B0 v zs ∧ Below w.heap.size w w'

theorem RowAt.mono {w : World} {B0 B1 : Nat} {v : Value} {zs : List Int} (h : RowAt w B0 v zs) (hB : B1 ≤ B0) : RowAt w B1 v zs := by
  obtain ⟨ps, h1, h2⟩ := h
  refine ⟨ps, ⟨h1.1, ?_⟩, fun i hi => ?_⟩
  · rcases h1.2 with h | ⟨g, cap, cur, h3, h4, h5⟩
    · exact .inl h
    · exact .inr ⟨g, cap, cur, h3, by omega, h5⟩
  · obtain ⟨p, hp, ha⟩ := h2 i hi
    exact ⟨p, hp, ha.mono fun k _ hk => by omega⟩

set_option maxRecDepth 100000 in
set_option maxHeartbeats 2000000 in
theorem normal_any (v : Value) (zs : List Int) (B0 : Nat) (w : World) (hv : RowAt w B0 v zs) (hB0 : B0 ≤ w.heap.size) (h1 : One zs) (hl : zs.length ≤ 1000000) : Calls Tryz.prog 32 #[v] w (RowRes w B0 (normZ zs)) := by
  obtain ⟨i0, hi, hzz⟩ := Option.map_eq_some_iff.1 infoP
  simp only [Prod.mk.injEq] at hzz
  obtain ⟨hz0, hz1, hz2⟩ := hzz
  have HI := Lib.hid hi
  have HZ0 := Lib.hid hz0
  have HZ1 := Lib.hid hz1
  have HZ2 := Lib.hid hz2
  clear hi hz0 hz1 hz2
  obtain ⟨ps, hrow⟩ := hv
  obtain ⟨o, cap, rfl, _, _⟩ := hrow.form
  obtain ⟨n, hn⟩ : ∃ n, zs.length = n := ⟨_, rfl⟩
  have HROW := Lib.hid hrow
  rw [hn] at hl
  have HN := Lib.hid hn
  rw [hn]
  clear hn hrow
  go_enter Tryz.func32, Tryz.ntmps32
  go_wp2
  go_loopw [12] (fun i wr => ∃ (k : Nat) (S : List Nat), k ≤ n ∧ i = .int .i64 k ∧ IntF wr w.heap.size (gcdZ (zs.take k)) S ∧ (∀ x, x ∈ S → w.heap.size ≤ x) ∧ Below w.heap.size w wr) (fun i _ => n - (intOf i).toNat)
  case atStart => exact ⟨0, _, Nat.zero_le _, rfl, by simpa [gcdZ] using intF_new w, by simp, (Below.refl _ _).alloc (Nat.le_refl _) _⟩
  case round =>
    obtain ⟨k, S, hk, rfl, hg, hS, hb⟩ := hrel
    by_cases hlt : k < n
    · have hk' : k < zs.length := by have := HN.out; omega
      obtain ⟨a, cap', ha, _, _, hcs⟩ := HROW.out.cell (by omega)
      obtain ⟨p, hp, hc⟩ := hcs k hk'
      obtain ⟨p', hp', bz, Sz, rfl, hz, hSz⟩ := HROW.out.ints k hk'
      rw [hp] at hp'
      obtain rfl := Option.some.inj hp'
      simp only [Value.slice.injEq] at ha
      obtain ⟨rfl, _, rfl⟩ := ha
      have hcell : wr.cell? ⟨a, k, none⟩ = some (.pointer (some ⟨bz, 0, none⟩)) := (hb.cell (p := ⟨a, k, none⟩) (by assumption)).trans hc
      have hz' : IntF wr bz zs[k] Sz := hz.below hb hz.lt
      have hone : zs[k].natAbs < 18446744073709551616 := h1 _ (List.getElem_mem hk')
      have hgl := gcdZ_lt (h1.take k)
      have hlz : (dg zs[k].natAbs).length ≤ 1000000 := by have := @dg_length_le zs[k].natAbs 1 (by rw [B_eq]; omega); omega
      have HG := Lib.hid (gcdZ_snoc (zs.take k) zs[k])
      rw [← List.take_succ_eq_append_getElem hk'] at HG
      obtain ⟨z, hzk⟩ : ∃ z, zs[k] = z := ⟨_, rfl⟩
      rw [hzk] at hz' hone hlz HG
      clear hzk hcs hz hSz hp
      go_wp2_with fail
      refine (abs_any wr.heap.size bz 0 z _ _ _ (intF_new wr) (hz'.to fun k hk => Below.heap_alloc _ _ _ (hz'.lt k hk)) hlz).mono ?_
      rintro e w1 ⟨S1, rfl, hf1, hS1, hc1⟩
      have hg1 : IntF w1 w.heap.size (gcdZ (zs.take k)) S := hg.to fun x hx => by
        rw [hc1.block x (by have := hg.lt x hx; simp; omega) (by have := hg.lt x hx; simp; omega)]
        exact Below.heap_alloc _ _ _ (hg.lt x hx)
      go_wp2_with fail
      refine (gcd_any w.heap.size w.heap.size wr.heap.size (gcdZ (zs.take k)) (gcdZ (zs.take k)) z.natAbs S S S1 w1 hg1 hg1 hf1 (by simpa using hgl) (by simpa using hone)).mono ?_
      rintro e w2 ⟨S2, rfl, hf2, hS2, hc2⟩
      simp only [Int.natAbs_natCast, ← HG.out] at hf2
      have hb1 : Below w.heap.size w w1 := (hb.alloc hb.size _).trans (hc1.below (by have := hb.size; simp; omega) (by have := hb.size; simp; omega))
      have hb2 : Below w.heap.size w w2 := hb1.trans (hc2.below hb1.size hS)
      have hS2' : ∀ x, x ∈ S2 → w.heap.size ≤ x := fun x hx => by
        rcases hS2 x hx with h | h
        · exact hS x h
        · exact Nat.le_trans hb1.size h
      clear hf1 hS1 hc1 hg1 hS2 hc2 hg hS hb hb1 hz'
      go_wp2
      go_roundw
      case rel => exact ⟨k + 1, S2, by omega, by go_num, hf2, hS2', hb2⟩
      case measure => simp [intOf]; omega
    · obtain rfl : k = n := by omega
      have hg' : IntF wr w.heap.size (gcdZ zs) S := by
        have := HN.out
        rwa [List.take_of_length_le (by omega)] at hg
      clear hg
      have hs := Lib.hid (sign_any w.heap.size _ S wr hg')
      by_cases hg0 : gcdZ zs = 0
      · have e : ((gcdZ zs : Nat) : Int).sign = 0 := by rw [hg0]; rfl
        rw [e] at hs
        go_wp2_with (go_at_call 43; refine hs.out.mono ?_; rintro e w' ⟨rfl, rfl⟩)
        go_ret
        refine ⟨_, rfl, ?_, hb⟩
        rw [normZ, if_pos hg0]
        have := HN.out
        rw [← this]
        exact RowAt.below ⟨ps, HROW.out⟩ hb (Nat.le_refl _)
      · have e : ((gcdZ zs : Nat) : Int).sign = 1 := Int.sign_eq_one_of_pos (by omega)
        rw [e] at hs
        go_wp2_with (go_at_call 43; refine hs.out.mono ?_; rintro e w' ⟨rfl, rfl⟩)
        have HG0 := Lib.hid hg0
        have hgl := gcdZ_lt h1
        clear hs e hg0
        have hk8 : (k : Int) ≤ 1000000 := by omega
        obtain ⟨w0, rfl⟩ : ∃ w0 : World, w0 = wr := ⟨_, rfl⟩
        go_loopw [6, 29] (fun r i wx => ∃ (j : Nat) (qs : List Value), j ≤ k ∧ i = .int .i64 j ∧ RowP wx w0.heap.size r ((zs.take j).map fun z => z.tdiv (gcdZ zs)) qs ∧ Below w0.heap.size w0 wx) (fun _ i _ => k - (intOf i).toNat)
        case atStart => exact ⟨0, [], Nat.zero_le _, rfl, by simpa using RowP.nil w0 _, Below.refl _ _⟩
        case round =>
          obtain ⟨j, qs, hj, rfl, hrow, hbx⟩ := hrel
          by_cases hlt : j < k
          · have hj' : j < zs.length := by have := HN.out; omega
            obtain ⟨a, cap', ha, _, _, hcs⟩ := HROW.out.cell (by omega)
            obtain ⟨p, hp, hc⟩ := hcs j hj'
            obtain ⟨p', hp', bz, Sz, rfl, hz, hSz⟩ := HROW.out.ints j hj'
            rw [hp] at hp'
            obtain rfl := Option.some.inj hp'
            simp only [Value.slice.injEq] at ha
            obtain ⟨rfl, _, rfl⟩ := ha
            have hbw := hb.trans (hbx.mono hb.size)
            have hcell : wr.cell? ⟨a, j, none⟩ = some (.pointer (some ⟨bz, 0, none⟩)) := (hbw.cell (p := ⟨a, j, none⟩) (by assumption)).trans hc
            have hz' : IntF wr bz zs[j] Sz := hz.below hbw hz.lt
            have hgx : IntF wr w.heap.size (gcdZ zs) S := hg'.below hbx hg'.lt
            have hone : zs[j].natAbs < 18446744073709551616 := h1 _ (List.getElem_mem hj')
            have hlen : ((zs.take j).map fun z => z.tdiv (gcdZ zs)).length = j := by rw [List.length_map, List.length_take]; omega
            have HT := Lib.hid (List.take_succ_eq_append_getElem hj')
            obtain ⟨z, hzk⟩ : ∃ z, zs[j] = z := ⟨_, rfl⟩
            rw [hzk] at hz' hone HT
            have HLEN := Lib.hid hlen
            have hbl := hz.lt
            clear hzk hcs hz hSz hp hlen
            go_wp2_with fail
            refine (quo_any wr.heap.size bz w.heap.size 0 z (gcdZ zs) _ _ _ _ (intF_new wr) (hz'.to fun k hk => Below.heap_alloc _ _ _ (hz'.lt k hk)) (hgx.to fun k hk => Below.heap_alloc _ _ _ (hgx.lt k hk))
              (by have := hbw.size; have := hbl bz (by obtain ⟨_, _, _, _, rfl⟩ := hz'; simp); omega) (by have := hgx.lt w.heap.size (by obtain ⟨_, _, _, _, rfl⟩ := hgx; simp); omega) hone (by have := HG0.out; omega) (by simpa using hgl)).mono ?_
            rintro e w1 ⟨S1, rfl, hf1, hS1, hc1⟩
            have hb1 : Below w0.heap.size w0 w1 := (hbx.alloc hbx.size _).trans (hc1.below (by have := hbx.size; simp; omega) (by have := hbx.size; simp; omega))
            have hb1' : Below wr.heap.size wr w1 := ((Below.refl _ _).alloc (Nat.le_refl _) _).trans (hc1.below (by simp) (by simp))
            have hrow1 := hrow.below hb1' (Nat.le_refl _)
            have hown1 := hrow1.own
            rw [HLEN.out] at hown1
            have hp : IntAt w1 (fun k => w0.heap.size ≤ k) (.pointer (some ⟨wr.heap.size, 0, none⟩)) (z.tdiv (gcdZ zs)) := ⟨_, S1, rfl, hf1, fun x hx => by
              rcases hS1 x hx with h | h
              · simp at h; have := hbx.size; omega
              · simp at h; have := hbx.size; omega⟩
            clear hf1 hS1 hc1 hb1' hrow hbx hbw hz' hgx hbl
            go_wp2_with (at_builtin; refine wpList_append_own _ rfl (.tmp 33) (.tmp 38) 58 rfl w0.heap.size 62 i0 (.pointer none) 1 8 Tryz.underlying58 HI.out HZ0.out HZ1.out HZ2.out rfl (by decide) _ j qs rfl (hown1.alloc _) ⟨w1.heap.size, 0, none⟩ 1 1 [.pointer (some ⟨wr.heap.size, 0, none⟩)] rfl rfl ?c1 ?c2 ?c3 ?c4 ?c5 ?_)
            case c1 =>
              intro j u hj
              match j, hj with
              | 0, hj => simp at hj; subst hj; simp [Addr.add]
            case c2 => intro u hu; simp at hu; subst hu; rfl
            case c3 => unfold maxLen; omega
            case c4 => omega
            case c5 => have := hb1.size; simp; omega
            · intro v' w2 hown' hgrow _
              have hpush := hrow1.push hp (by rw [HLEN.out]; exact hown') hgrow
              rw [show ((zs.take j).map fun z => z.tdiv (gcdZ zs)) ++ [z.tdiv (gcdZ zs)] = (zs.take (j + 1)).map fun z => z.tdiv (gcdZ zs) by rw [HT.out, List.map_append]; rfl] at hpush
              have hbw2 : Below w0.heap.size w0 w2 := (hb1.alloc hb1.size _).grown hgrow (by have := hb1.size; simp; omega) (fun k hk => (hown1.lt k hk).1)
              clear hown' hgrow hown1 hrow1 hp hb1
              go_wp2
              go_roundw
              case rel => exact ⟨j + 1, _, by omega, by go_num, hpush, hbw2⟩
              case measure => simp [intOf]; omega
          · obtain rfl : j = k := by omega
            have HTT := Lib.hid (List.take_of_length_le (l := zs) (i := j) (by have := HN.out; omega))
            go_wp2
            go_ret
            refine ⟨_, rfl, ?_, hb.trans (hbx.mono hb.size)⟩
            rw [normZ, if_neg HG0.out]
            rw [HTT.out] at hrow
            exact RowAt.mono ⟨qs, hrow⟩ (Nat.le_trans hB0 hb.size)
end Go.Proofs.YtochcofoknfjfaaGreatDoor
