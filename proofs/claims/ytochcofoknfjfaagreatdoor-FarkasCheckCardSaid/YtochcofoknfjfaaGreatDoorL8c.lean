/- The law FarkasCheck answers true whatever its input is, and its arguments read as they did: the card, proved. Conditions: those of the given row alone. -/
import Derived.Test.YtochcofoknfjfaaGreatDoorL8
import Derived.Test.YtochcofoknfjfaaGreatDoorL8f
import Derived.Test.YtochcofoknfjfaaGreatDoorTie
import Derived.Test.YtochcofoknfjfaaGreatDoorCards
import Derived.SevenTiedAt
namespace Go.Proofs.YtochcofoknfjfaaGreatDoor
open Go

theorem farkasCheck_row_holds : Rows.FarkasCheckSaid :=
  OpenClaim.holds_of_wide 4 Tryz.f4 rfl rfl rfl rfl rfl rfl rfl ⟨rfl, rfl, rfl, rfl, rfl⟩ rfl rfl rfl rfl rfl (by kernel_rfl) Tryz.func4 kfs
    (of_decide_eq_true (by kernel_rfl)) (by unfold Func.isWrapper; first | (rw [if_pos (by decide +kernel)]; kernel_rfl) | (rw [if_neg (by decide +kernel)]; exact ⟨rfl, rfl⟩))
    (fun os started H enc _ => check_lifted os started H enc)

/-- The card. -/
theorem farkasCheck_card : Rows.FarkasCheckCardSaid :=
  Claim7.holds_tied_plain_at .later [] [.data, .data, .handle, .sentinel, .sentinel, .sentinel, .sentinel, .sentinel, .sentinel, .sentinel, .sentinel, .data, .data, .data, .data, .data] true (true, "420a5f5b5918bd3164aba54de3e4b964d6ea782b8fa638fc32f8eb0bc5d50a68") true
    farkasCheck_row_holds (fun _ h => by cases h) (by kernel_rfl) (fun _ h => by cases h) farkasCheck_row_tie rfl ⟨rfl, rfl⟩ (by kernel_rfl) rfl
    (fun f fn hf hfn => by
      obtain rfl : f = 4 := Option.some.inj ((show Tryz.prog.funcNamed "raycone/rayconelaw1.FarkasCheck" = some 4 by kernel_rfl).symm.trans hf) |>.symm
      obtain rfl : fn = Tryz.f4 := (Option.some.inj (Tryz.func4.symm.trans hfn)).symm
      exact ⟨by kernel_rfl, fun j t ht => by
        rw [Tryz.params4] at ht
        have hm : t ∈ [29, 31, 22, 3] := by simpa using Array.mem_of_getElem? ht
        have hall : ([29, 31, 22, 3].all fun u => !Tryz.prog.wantsStandIn u) = true := by kernel_rfl
        exact (show Tryz.prog.wantsStandIn t = false by simpa using List.all_eq_true.1 hall t hm)⟩)
    (by kernel_rfl)
#print axioms farkasCheck_card
end Go.Proofs.YtochcofoknfjfaaGreatDoor
