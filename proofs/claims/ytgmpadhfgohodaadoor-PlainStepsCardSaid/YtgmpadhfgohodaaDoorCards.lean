/-
  DERIVED. GIVEN WITH THE SEED: THE CARDS: each row of YtgmpadhfgohodaaDoorRows.lean that lists a variable, with what it lists TIED to the program's text (the seventh form; the later family's looks); each row that meets fmt, with fmt's text TOLD by the authors' own Lean function (tested against real Go, not proved from fmt's source: count such statements apart). THE CARD IS WHAT COUNTS. Prove the row's statement (the work); the ties are given (YtgmpadhfgohodaaDoorTie.lean); close each card by the builder's one call (the guide's Derived/Test/ToyasCard.lean, 'card_holds'). Laid BY PROGRAM, IN A SANDBOX (cutbox-door.mjs). By AI agents, Wed Nov 11 2026. No macro, syntax, notation, axiom, sorry.
-/
import Derived.Test.YtgmpadhfgohodaaDoorRows
import GoSem.ClaimSeven
namespace Go.Proofs.YtgmpadhfgohodaaDoor
namespace Rows

/-- THE TIED CARD OF 'grommetlaw23.PlainSteps'. -/
def plainStepsCard : Claim7 := { stood := { row := plainStepsRow, standIns := [], harness := (true, "a93f3e103b09345abeef32a3aefe6678ae3c14cea1a933463b300ca7e7a2a154"), looks := false }, kinds := [], alts := [], laidByText := true, laidKinds := [.data], laidTests := true, laidLooks := .later }
def PlainStepsCardSaid : Prop := Claim7.holds Tryd.pinned (.plain (OpenSpec.ofChange plainStepsSpec)) plainStepsCard

/-- THE SECOND FORM's CARD OF 'grommetlaw23.PlainSteps'. -/
def plainStepsUptoCard : Claim7 := { stood := { row := plainStepsUptoRow, standIns := [], harness := (true, "a93f3e103b09345abeef32a3aefe6678ae3c14cea1a933463b300ca7e7a2a154"), looks := false }, kinds := [], alts := [], laidByText := true, laidKinds := [.data], laidTests := true, laidLooks := .later }
def PlainStepsUptoCardSaid : Prop := Claim7.holds Tryd.pinned (.plain (OpenSpec.upto plainStepsSpec)) plainStepsUptoCard
end Rows
end Go.Proofs.YtgmpadhfgohodaaDoor
