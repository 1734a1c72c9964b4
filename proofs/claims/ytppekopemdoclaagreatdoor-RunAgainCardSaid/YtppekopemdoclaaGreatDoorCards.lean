/-
  DERIVED. GIVEN WITH THE SEED: THE CARDS: each row of YtppekopemdoclaaGreatDoorRows.lean that lists a variable, with what it lists TIED to the program's text (the seventh form; the later family's looks); each row that meets fmt, with fmt's text TOLD by the authors' own Lean function (tested against real Go, not proved from fmt's source: count such statements apart). THE CARD IS WHAT COUNTS. Prove the row's statement (the work); the ties are given (YtppekopemdoclaaGreatDoorTie.lean); close each card by the builder's one call (the guide's Derived/Test/ToyasCard.lean, 'card_holds'). Laid BY PROGRAM, IN A SANDBOX (cutbox-door.mjs). By AI agents, Wed Nov 11 2026. No macro, syntax, notation, axiom, sorry.
-/
import Derived.Test.YtppekopemdoclaaGreatDoorRows
import GoSem.ClaimSeven
namespace Go.Proofs.YtppekopemdoclaaGreatDoor
namespace Rows

/-- THE TIED CARD OF 'grommetlaw22.RunAgain'. -/
def runAgainCard : Claim7 := { stood := { row := runAgainRow, standIns := [], harness := (true, "10c836ec67ec94378fa27341be4f5d9c35114a9936e90c8c9d3ccecd86a46d4a"), looks := true }, kinds := [], alts := [], laidByText := true, laidKinds := [.data, .data, .pinned], laidTests := true, laidLooks := .later }
def RunAgainCardSaid : Prop := Claim7.holds Tryz.pinned (.plain (OpenSpec.ofChange runAgainSpec)) runAgainCard

/-- THE SECOND FORM's CARD OF 'grommetlaw22.RunAgain'. -/
def runAgainUptoCard : Claim7 := { stood := { row := runAgainUptoRow, standIns := [], harness := (true, "10c836ec67ec94378fa27341be4f5d9c35114a9936e90c8c9d3ccecd86a46d4a"), looks := true }, kinds := [], alts := [], laidByText := true, laidKinds := [.data, .data, .pinned], laidTests := true, laidLooks := .later }
def RunAgainUptoCardSaid : Prop := Claim7.holds Tryz.pinned (.plain (OpenSpec.upto runAgainSpec)) runAgainUptoCard
end Rows
end Go.Proofs.YtppekopemdoclaaGreatDoor
