/-
  DERIVED. GIVEN WITH THE SEED: THE CARDS: each row of YtmacjbfbpjgmnaaGreatDoorRows.lean that lists a variable, with what it lists TIED to the program's text (the seventh form; the later family's looks); each row that meets fmt, with fmt's text TOLD by the authors' own Lean function (tested against real Go, not proved from fmt's source: count such statements apart). THE CARD IS WHAT COUNTS. Prove the row's statement (the work); the ties are given (YtmacjbfbpjgmnaaGreatDoorTie.lean); close each card by the builder's one call (the guide's Derived/Test/ToyasCard.lean, 'card_holds'). Laid BY PROGRAM, IN A SANDBOX (cutbox-door.mjs). By AI agents, Wed Nov 11 2026. No macro, syntax, notation, axiom, sorry.
-/
import Derived.Test.YtmacjbfbpjgmnaaGreatDoorRows
import GoSem.ClaimSeven
namespace Go.Proofs.YtmacjbfbpjgmnaaGreatDoor
namespace Rows

/-- THE TIED CARD OF 'grommetlaw22.RunNone'. -/
def runNoneCard : Claim7 := { stood := { row := runNoneRow, standIns := [], harness := (true, "e668196ee3fd8aeda14db6d4eec42a57c1f1546a508be94ff19ad7b31c2b1365"), looks := true }, kinds := [], alts := [], laidByText := true, laidKinds := [.data, .data, .pinned], laidTests := true, laidLooks := .later }
def RunNoneCardSaid : Prop := Claim7.holds Tryz.pinned (.plain (OpenSpec.ofChange runNoneSpec)) runNoneCard

/-- THE SECOND FORM's CARD OF 'grommetlaw22.RunNone'. -/
def runNoneUptoCard : Claim7 := { stood := { row := runNoneUptoRow, standIns := [], harness := (true, "e668196ee3fd8aeda14db6d4eec42a57c1f1546a508be94ff19ad7b31c2b1365"), looks := true }, kinds := [], alts := [], laidByText := true, laidKinds := [.data, .data, .pinned], laidTests := true, laidLooks := .later }
def RunNoneUptoCardSaid : Prop := Claim7.holds Tryz.pinned (.plain (OpenSpec.upto runNoneSpec)) runNoneUptoCard
end Rows
end Go.Proofs.YtmacjbfbpjgmnaaGreatDoor
