/- The law RowsDot answers true whatever its input is, and its arguments read as they did: the card, proved. Conditions: those of the given row alone. -/
import Derived.Test.YtochcofoknfjfaaGreatDoorD6
import Derived.Test.YtochcofoknfjfaaGreatDoorD6f
import Derived.Test.YtochcofoknfjfaaGreatDoorTie
import Derived.Test.YtochcofoknfjfaaGreatDoorCards
import Derived.SevenTiedAt
namespace Go.Proofs.YtochcofoknfjfaaGreatDoor
open Go

theorem rowsDot_row_holds : Rows.RowsDotSaid :=
  OpenClaim.holds_of_wide 6 Tryz.f6 rfl rfl rfl rfl rfl rfl rfl ⟨rfl, rfl, rfl, rfl, rfl⟩ rfl rfl rfl rfl rfl (by kernel_rfl) Tryz.func6 dfs
    (of_decide_eq_true (by kernel_rfl)) (by unfold Func.isWrapper; first | (rw [if_pos (by decide +kernel)]; kernel_rfl) | (rw [if_neg (by decide +kernel)]; exact ⟨rfl, rfl⟩))
    (fun os started H enc _ => dot_lifted os started H enc)

/-- The card. -/
theorem rowsDot_card : Rows.RowsDotCardSaid :=
  Claim7.holds_tied_plain_at .later [] [.data, .data, .handle, .sentinel, .sentinel, .sentinel, .sentinel, .sentinel, .sentinel, .sentinel, .sentinel, .data, .data, .data, .data, .data] true (true, "870465b4e00fe7645fdfeb42d3bd2fb8e661359a62ed848634c5f6a837889149") true
    rowsDot_row_holds (fun _ h => by cases h) (by kernel_rfl) (fun _ h => by cases h) rowsDot_row_tie rfl ⟨rfl, rfl⟩ (by kernel_rfl) rfl
    (fun f fn hf hfn => by
      obtain rfl : f = 6 := Option.some.inj ((show Tryz.prog.funcNamed "raycone/rayconelaw1.RowsDot" = some 6 by kernel_rfl).symm.trans hf) |>.symm
      obtain rfl : fn = Tryz.f6 := (Option.some.inj (Tryz.func6.symm.trans hfn)).symm
      exact ⟨by kernel_rfl, fun j t ht => by
        rw [Tryz.params6] at ht
        have hm : t ∈ [22, 22] := by simpa using Array.mem_of_getElem? ht
        have hall : ([22, 22].all fun u => !Tryz.prog.wantsStandIn u) = true := by kernel_rfl
        exact (show Tryz.prog.wantsStandIn t = false by simpa using List.all_eq_true.1 hall t hm)⟩)
    (by kernel_rfl)
#print axioms rowsDot_card
end Go.Proofs.YtochcofoknfjfaaGreatDoor
