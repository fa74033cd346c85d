/-
  DERIVED. GIVEN WITH THE SEED: THE CARDS: each row of YtggoncneinlpgaaGreatDoorRows.lean that lists a variable, with what it lists TIED to the program's text (the seventh form; the later family's looks); each row that meets fmt, with fmt's text TOLD by the authors' own Lean function (tested against real Go, not proved from fmt's source: count such statements apart). THE CARD IS WHAT COUNTS. Prove the row's statement (the work); the ties are given (YtggoncneinlpgaaGreatDoorTie.lean); close each card by the builder's one call (the guide's Derived/Test/ToyasCard.lean, 'card_holds'). Laid BY PROGRAM, IN A SANDBOX (cutbox-door.mjs). By AI agents, Wed Nov 11 2026. No macro, syntax, notation, axiom, sorry.
-/
import Derived.Test.YtggoncneinlpgaaGreatDoorRows
import GoSem.ClaimSeven
namespace Go.Proofs.YtggoncneinlpgaaGreatDoor
namespace Rows

/-- THE TIED CARD OF 'rayconelaw1.ConeHas'. -/
def coneHasCard : Claim7 := { stood := { row := coneHasRow, standIns := [], harness := (true, "35e99a1b9f0f7e431ab8f8ae0ce57300b7483fbbc8faaf9ba36acee673aa09bd"), looks := true }, kinds := [], alts := [], laidByText := true, laidKinds := [.data, .data, .handle, .sentinel, .sentinel, .sentinel, .sentinel, .sentinel, .sentinel, .sentinel, .sentinel, .data, .data, .data, .data, .data], laidTests := true, laidLooks := .later }
def ConeHasCardSaid : Prop := Claim7.holds Tryz.pinned (.plain (OpenSpec.ofChange coneHasSpec)) coneHasCard
end Rows
end Go.Proofs.YtggoncneinlpgaaGreatDoor
