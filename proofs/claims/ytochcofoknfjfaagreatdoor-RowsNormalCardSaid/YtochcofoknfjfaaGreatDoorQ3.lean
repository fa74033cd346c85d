/- The law RowsNormal answers true whatever the row is, and its argument reads as it did: the card, proved. Conditions: those of the given row alone. -/
import Derived.Test.YtochcofoknfjfaaGreatDoorQ2
import Derived.Test.YtochcofoknfjfaaGreatDoorF1
import Derived.Test.YtochcofoknfjfaaGreatDoorTie
import Derived.Test.YtochcofoknfjfaaGreatDoorCards
import Derived.SevenTiedAt
namespace Go.Proofs.YtochcofoknfjfaaGreatDoor
open Go

theorem normal_row : Rows.RowsNormalSaid :=
  OpenClaim.holds_of_wide 3 Tryz.f3 rfl rfl rfl rfl rfl rfl rfl ⟨rfl, rfl, rfl, rfl, rfl⟩ rfl rfl rfl rfl rfl (by kernel_rfl) Tryz.func3 nfs
    (of_decide_eq_true (by kernel_rfl)) (by unfold Func.isWrapper; first | (rw [if_pos (by decide +kernel)]; kernel_rfl) | (rw [if_neg (by decide +kernel)]; exact ⟨rfl, rfl⟩))
    (fun os started H enc _ => normal_lifted os started H enc)

/-- The card. -/
theorem rowsNormal_card : Rows.RowsNormalCardSaid :=
  Claim7.holds_tied_plain_at .later [] [.data, .data, .data, .data, .data, .data, .data] true (true, "420a5f5b5918bd3164aba54de3e4b964d6ea782b8fa638fc32f8eb0bc5d50a68") true
    normal_row (fun _ h => by cases h) (by kernel_rfl) (fun _ h => by cases h) rowsNormal_row_tie rfl ⟨rfl, rfl⟩ (by kernel_rfl) rfl
    (fun f fn hf hfn => by
      obtain rfl : f = 3 := Option.some.inj ((show Tryz.prog.funcNamed "raycone/rayconelaw1.RowsNormal" = some 3 by kernel_rfl).symm.trans hf) |>.symm
      obtain rfl : fn = Tryz.f3 := (Option.some.inj (Tryz.func3.symm.trans hfn)).symm
      exact ⟨by kernel_rfl, fun j t ht => by
        rw [Tryz.params3] at ht
        have hm : t ∈ [22] := by simpa using Array.mem_of_getElem? ht
        have hall : ([22].all fun u => !Tryz.prog.wantsStandIn u) = true := by kernel_rfl
        exact (show Tryz.prog.wantsStandIn t = false by simpa using List.all_eq_true.1 hall t hm)⟩)
    (by kernel_rfl)
#print axioms rowsNormal_card
end Go.Proofs.YtochcofoknfjfaaGreatDoor
