/- The law RowsCombine answers true whatever its input is, and its arguments read as they did: the card, proved. Conditions: those of the given row alone. -/
import Derived.Test.YtochcofoknfjfaaGreatDoorC6
import Derived.Test.YtochcofoknfjfaaGreatDoorC6f
import Derived.Test.YtochcofoknfjfaaGreatDoorTie
import Derived.Test.YtochcofoknfjfaaGreatDoorCards
import Derived.SevenTiedAt
namespace Go.Proofs.YtochcofoknfjfaaGreatDoor
open Go

theorem rowsCombine_row_holds : Rows.RowsCombineSaid :=
  OpenClaim.holds_of_wide 7 Tryz.f7 rfl rfl rfl rfl rfl rfl rfl ⟨rfl, rfl, rfl, rfl, rfl⟩ rfl rfl rfl rfl rfl (by kernel_rfl) Tryz.func7 cfs
    (of_decide_eq_true (by kernel_rfl)) (by unfold Func.isWrapper; first | (rw [if_pos (by decide +kernel)]; kernel_rfl) | (rw [if_neg (by decide +kernel)]; exact ⟨rfl, rfl⟩))
    (fun os started H enc _ => comb_lifted os started H enc)

/-- The card. -/
theorem rowsCombine_card : Rows.RowsCombineCardSaid :=
  Claim7.holds_tied_plain_at .later [] [.data, .data, .handle, .sentinel, .sentinel, .sentinel, .sentinel, .sentinel, .sentinel, .sentinel, .sentinel, .data, .data, .data, .data, .data] true (true, "870465b4e00fe7645fdfeb42d3bd2fb8e661359a62ed848634c5f6a837889149") true
    rowsCombine_row_holds (fun _ h => by cases h) (by kernel_rfl) (fun _ h => by cases h) rowsCombine_row_tie rfl ⟨rfl, rfl⟩ (by kernel_rfl) rfl
    (fun f fn hf hfn => by
      obtain rfl : f = 7 := Option.some.inj ((show Tryz.prog.funcNamed "raycone/rayconelaw1.RowsCombine" = some 7 by kernel_rfl).symm.trans hf) |>.symm
      obtain rfl : fn = Tryz.f7 := (Option.some.inj (Tryz.func7.symm.trans hfn)).symm
      exact ⟨by kernel_rfl, fun j t ht => by
        rw [Tryz.params7] at ht
        have hm : t ∈ [22, 3, 22, 3] := by simpa using Array.mem_of_getElem? ht
        have hall : ([22, 3, 22, 3].all fun u => !Tryz.prog.wantsStandIn u) = true := by kernel_rfl
        exact (show Tryz.prog.wantsStandIn t = false by simpa using List.all_eq_true.1 hall t hm)⟩)
    (by kernel_rfl)
#print axioms rowsCombine_card
end Go.Proofs.YtochcofoknfjfaaGreatDoor
