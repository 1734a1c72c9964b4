/-
  DERIVED. GIVEN WITH THE SEED: THE CARDS: each row of YtmmdlhjcmlekfaaGreatDoorRows.lean that lists a variable, with what it lists TIED to the program's text (the seventh form; the later family's looks); each row that meets fmt, with fmt's text TOLD by the authors' own Lean function (tested against real Go, not proved from fmt's source: count such statements apart). THE CARD IS WHAT COUNTS. Prove the row's statement (the work); the ties are given (YtmmdlhjcmlekfaaGreatDoorTie.lean); close each card by the builder's one call (the guide's Derived/Test/ToyasCard.lean, 'card_holds'). Laid BY PROGRAM, IN A SANDBOX (cutbox-door.mjs). By AI agents, Wed Nov 11 2026. No macro, syntax, notation, axiom, sorry.
-/
import Derived.Test.YtmmdlhjcmlekfaaGreatDoorRows
import GoSem.ClaimSeven
namespace Go.Proofs.YtmmdlhjcmlekfaaGreatDoor
namespace Rows

/-- THE TIED CARD OF 'grommetlaw23.PlainModules'. -/
def plainModulesCard : Claim7 := { stood := { row := plainModulesRow, standIns := [], harness := (true, "e9f94aacb94c46c49878eb96577d627878182e50e90506b242adc6844b562466"), looks := true }, kinds := [], alts := [], laidByText := true, laidKinds := [.data], laidTests := true, laidLooks := .later }
def PlainModulesCardSaid : Prop := Claim7.holds Tryz.pinned (.plain (OpenSpec.ofChange plainModulesSpec)) plainModulesCard

/-- THE TIED CARD OF 'grommetlaw23.PlainNeeds'. -/
def plainNeedsCard : Claim7 := { stood := { row := plainNeedsRow, standIns := [], harness := (true, "e9f94aacb94c46c49878eb96577d627878182e50e90506b242adc6844b562466"), looks := true }, kinds := [], alts := [], laidByText := true, laidKinds := [.data], laidTests := true, laidLooks := .later }
def PlainNeedsCardSaid : Prop := Claim7.holds Tryz.pinned (.plain (OpenSpec.ofChange plainNeedsSpec)) plainNeedsCard

/-- THE SECOND FORM's CARD OF 'grommetlaw23.PlainModules'. -/
def plainModulesUptoCard : Claim7 := { stood := { row := plainModulesUptoRow, standIns := [], harness := (true, "e9f94aacb94c46c49878eb96577d627878182e50e90506b242adc6844b562466"), looks := true }, kinds := [], alts := [], laidByText := true, laidKinds := [.data], laidTests := true, laidLooks := .later }
def PlainModulesUptoCardSaid : Prop := Claim7.holds Tryz.pinned (.plain (OpenSpec.upto plainModulesSpec)) plainModulesUptoCard

/-- THE SECOND FORM's CARD OF 'grommetlaw23.PlainNeeds'. -/
def plainNeedsUptoCard : Claim7 := { stood := { row := plainNeedsUptoRow, standIns := [], harness := (true, "e9f94aacb94c46c49878eb96577d627878182e50e90506b242adc6844b562466"), looks := true }, kinds := [], alts := [], laidByText := true, laidKinds := [.data], laidTests := true, laidLooks := .later }
def PlainNeedsUptoCardSaid : Prop := Claim7.holds Tryz.pinned (.plain (OpenSpec.upto plainNeedsSpec)) plainNeedsUptoCard
end Rows
end Go.Proofs.YtmmdlhjcmlekfaaGreatDoor
