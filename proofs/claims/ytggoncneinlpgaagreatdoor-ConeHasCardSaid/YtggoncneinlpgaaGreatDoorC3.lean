/- Walks of the reference: Tame, MixOf. -/
import Derived.Test.YtggoncneinlpgaaGreatDoorC2
import Derived.Deep.AppendLies
namespace Go.Proofs.YtggoncneinlpgaaGreatDoor
open Go Go.RowKit Nt

def farB (z : Int) : Bool := decide (30 < z) || decide (z < -30)
def wildB (zs : List Int) : Bool := zs.any farB

set_option maxRecDepth 100000 in
set_option maxHeartbeats 1000000 in
theorem rtame_any (v : Value) (zs : List Int) (w : World) (hv : SliceI w v zs) (hl : zs.length ≤ 1000000) :
    Calls Tryz.prog 22 #[v] w fun e w' => e = .returned (.bool (!wildB zs)) ∧ w = w' := by
  obtain ⟨o, cap, rfl, hc⟩ := hv
  obtain ⟨n, hn⟩ : ∃ n, zs.length = n := ⟨_, rfl⟩
  rw [hn] at hl ⊢
  have HN := Lib.hid hn
  have HC := Lib.hid hc
  clear hn hc
  go_enter Tryz.func22, Tryz.ntmps22
  go_wp2
  go_loop [3] (fun i => ∃ k : Nat, k ≤ n ∧ i = .int .i64 k ∧ Hid (wildB (zs.take k) = false)) (fun i => n - (intOf i).toNat)
  case atStart => exact ⟨0, Nat.zero_le _, rfl, rfl⟩
  case round =>
    obtain ⟨k, hk, rfl, hf⟩ := hrel
    by_cases hlt : k < n
    · have hk' : k < zs.length := by have := HN.out; omega
      obtain ⟨b, off, rfl, hbl, hcs⟩ := HC.out (by intro e; rw [e] at hk'; simp at hk')
      have hcell : w.cell? ⟨b, off + k, none⟩ = some (.int .i64 zs[k]) := hcs k hk'
      have HT := Lib.hid (show wildB (zs.take (k + 1)) = farB zs[k] by
        rw [List.take_succ_eq_append_getElem hk', wildB, List.any_append]
        have := hf.out
        unfold wildB at this
        rw [this]
        simp)
      have HY : farB zs[k] = true → Hid (wildB zs = true) := fun h => by
        show wildB zs = true
        unfold wildB
        rw [List.any_eq_true]
        exact ⟨_, List.getElem_mem hk', h⟩
      obtain ⟨z, hz⟩ : ∃ z, zs[k] = z := ⟨_, rfl⟩
      rw [hz] at hcell HT HY
      clear hz hcs
      by_cases hb : farB z = true
      · have HR := HY hb
        clear HT HY
        unfold farB at hb
        by_cases h1 : 30 < z
        · clear hb
          go_wp2
          go_ret
          exact ⟨by rw [HR.out]; rfl, rfl⟩
        · have h2 : z < -30 := by simpa [h1] using hb
          have h1' : decide (30 < z) = false := by simp [h1]
          clear hb h1
          go_wp2
          go_ret
          exact ⟨by rw [HR.out]; rfl, rfl⟩
      · rw [Bool.not_eq_true] at hb
        have HF := Lib.hid (HT.out.trans hb)
        clear HT HY
        have h1 : decide (30 < z) = false := by unfold farB at hb; simp at hb; simp; omega
        have h2 : decide (z < -30) = false := by unfold farB at hb; simp at hb; simp; omega
        clear hb
        go_wp2
        go_round
        case rel => exact ⟨k + 1, by omega, by go_num, HF⟩
        case measure => simp [intOf]; omega
    · obtain rfl : k = n := by omega
      have HF := Lib.hid (show wildB zs = false by have := hf.out; have h := HN.out; rwa [List.take_of_length_le (by omega)] at this)
      go_wp2
      go_ret
      exact ⟨by rw [HF.out]; rfl, rfl⟩


theorem tame_of {zs : List Int} (h : wildB zs = false) : ∀ z ∈ zs, -30 ≤ z ∧ z ≤ 30 := fun z hz => by
  unfold wildB at h
  rw [List.any_eq_false] at h
  have := h z hz
  unfold farB at this
  simp at this
  omega

end Go.Proofs.YtggoncneinlpgaaGreatDoor
