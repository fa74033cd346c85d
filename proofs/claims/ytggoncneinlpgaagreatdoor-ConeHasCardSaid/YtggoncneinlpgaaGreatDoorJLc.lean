/- The law ConeHas answers true whatever its input is, and its arguments read as they did: the card, proved. Conditions: those of the given row alone (it assumes a calm run and that time may pass outside). -/
import Derived.Test.YtggoncneinlpgaaGreatDoorJC
import Derived.Test.YtggoncneinlpgaaGreatDoorJL
import Derived.Test.YtggoncneinlpgaaGreatDoorJLf
import Derived.Test.YtggoncneinlpgaaGreatDoorTie
import Derived.Test.YtggoncneinlpgaaGreatDoorCards
import Derived.SevenTiedAt
namespace Go.Proofs.YtggoncneinlpgaaGreatDoor
open Go

theorem coneHas_row_holds : Rows.ConeHasSaid :=
  Go.Clock.holds_of_wide_time 3 Tryz.f3 rfl rfl rfl rfl rfl rfl rfl ⟨rfl, rfl, rfl, rfl, rfl⟩ rfl rfl rfl rfl rfl (by kernel_rfl) Tryz.func3 hfs
    (of_decide_eq_true (by kernel_rfl)) (by unfold Func.isWrapper; first | (rw [if_pos (by decide +kernel)]; kernel_rfl) | (rw [if_neg (by decide +kernel)]; exact ⟨rfl, rfl⟩))
    (fun os started H enc _ F => has_lifted cone_unit os started H enc F)

/-- The card. -/
theorem coneHas_card : Rows.ConeHasCardSaid :=
  Claim7.holds_tied_plain_at .later [] [.data, .data, .handle, .sentinel, .sentinel, .sentinel, .sentinel, .sentinel, .sentinel, .sentinel, .sentinel, .data, .data, .data, .data, .data] true (true, "35e99a1b9f0f7e431ab8f8ae0ce57300b7483fbbc8faaf9ba36acee673aa09bd") true
    coneHas_row_holds (fun _ h => by cases h) (by kernel_rfl) (fun _ h => by cases h) coneHas_row_tie rfl ⟨rfl, rfl⟩ (by kernel_rfl) rfl
    (fun f fn hf hfn => by
      obtain rfl : f = 3 := Option.some.inj ((show Tryz.prog.funcNamed "raycone/rayconelaw1.ConeHas" = some 3 by kernel_rfl).symm.trans hf) |>.symm
      obtain rfl : fn = Tryz.f3 := (Option.some.inj (Tryz.func3.symm.trans hfn)).symm
      exact ⟨by kernel_rfl, fun j t ht => by
        rw [Tryz.params3] at ht
        have hm : t ∈ [3, 22, 23] := by simpa using Array.mem_of_getElem? ht
        have hall : ([3, 22, 23].all fun u => !Tryz.prog.wantsStandIn u) = true := by kernel_rfl
        exact (show Tryz.prog.wantsStandIn t = false by simpa using List.all_eq_true.1 hall t hm)⟩)
    (by kernel_rfl)
#print axioms coneHas_card
end Go.Proofs.YtggoncneinlpgaaGreatDoor
