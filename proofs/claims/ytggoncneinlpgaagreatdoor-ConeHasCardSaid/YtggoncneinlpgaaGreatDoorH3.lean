/- Walk: Int.Neg. -/
import Derived.Test.YtggoncneinlpgaaGreatDoorW3
namespace Go.Proofs.YtggoncneinlpgaaGreatDoor
open Go Go.RowKit Nt

/-- The sign turns. -/
theorem intF_neg {w : World} {b : Nat} {z : Int} {S : List Nat} (h : IntF w b z S) : IntF (w.setCell ⟨b, 0, none⟩ (.bool (decide (-z < 0)))) b (-z) S := by
  obtain ⟨v, T, hb, hw, rfl⟩ := h
  refine ⟨v, T, ?_, ?_, rfl⟩
  · have := hb.set 0 (.bool (decide (-z < 0)))
    simpa using this
  · rw [Int.natAbs_neg]
    exact hw.to fun k hk => Below.heap_setCell _ _ _ _ (fun e => by have e' : k = b := e; subst e'; exact hw.notIn hb hk)

set_option maxRecDepth 100000 in
set_option maxHeartbeats 400000 in
theorem neg_any (bz bx : Nat) (z x : Int) (S T : List Nat) (w : World) (hz : IntF w bz z S) (hx : IntF w bx x T) (hl : (dg x.natAbs).length ≤ 1000000) :
    Calls Tryz.prog 81 #[.pointer (some ⟨bz, 0, none⟩), .pointer (some ⟨bx, 0, none⟩)] w (IntRes w bz S (-x)) := by
  have hb : bz ∈ S := by obtain ⟨v, T, _, _, rfl⟩ := hz; simp
  have HS := Lib.hid (set_any bz bx z x S T w hz hx hl)
  have HF : ∀ (w1 : World) (S' : List Nat), IntF w1 bz x S' → (∀ k, k ∈ S' → k ∈ S ∨ w.heap.size ≤ k) → Chg S w w1 → Hid (IntRes w bz S (-x) (.returned (.pointer (some ⟨bz, 0, none⟩))) (w1.setCell ⟨bz, 0, none⟩ (.bool (decide (-x < 0))))) := fun w1 S' h1 hS hc => ⟨S', rfl, intF_neg h1, hS, hc.setCell (.inl hb) _⟩
  have HFF := Lib.hid HF
  clear HF hz hx hl hb
  by_cases h0 : x = 0
  · subst h0
    go_enter Tryz.func81, Tryz.ntmps81
    go_wp2_with fail
    refine HS.out.mono ?_
    rintro e w1 ⟨S', rfl, h1, hS, hc⟩
    have HE := HFF.out w1 S' h1 hS hc
    obtain ⟨o, cap, T', q1, q2, q3, q4, q5⟩ := h1.cells
    have q6 := q5.free 0
    rw [show (dg (0 : Int).natAbs).length = 0 by rw [Int.natAbs_zero, dg_zero]; rfl] at q2
    clear q3 q4 q5 hS hc h1
    go_wp2_with fail
    go_ret
    exact HE.out
  · go_enter Tryz.func81, Tryz.ntmps81
    go_wp2_with fail
    refine HS.out.mono ?_
    rintro e w1 ⟨S', rfl, h1, hS, hc⟩
    have HE := HFF.out w1 S' h1 hS hc
    obtain ⟨o, cap, T', q1, q2, q3, q4, q5⟩ := h1.cells
    have q6 := q5.free 0
    obtain ⟨l, hl⟩ : ∃ l, (dg x.natAbs).length = l + 1 := ⟨(dg x.natAbs).length - 1, by rw [dg_pos (by omega)]; simp⟩
    rw [hl] at q2
    have hs : decide (-x < 0) = !decide (x < 0) := by
      by_cases h : x < 0
      · rw [decide_eq_true h, decide_eq_false (by omega)]; rfl
      · rw [decide_eq_false h, decide_eq_true (by omega)]; rfl
    rw [hs] at HE
    obtain ⟨nx, hnx⟩ : ∃ b, decide (x < 0) = b := ⟨_, rfl⟩
    rw [hnx] at HE q1
    have hl0 : decide ((0 : Int) < (l : Int) + 1) = true := by simp
    clear q3 q4 q5 hS hc h1 hs hnx hl h0
    go_wp2_with fail
    go_ret
    exact HE.out
end Go.Proofs.YtggoncneinlpgaaGreatDoor
