/-
  DERIVED. GIVEN WITH THE SEED: THE CARDS: each row of YtpahnbgfmhcndaaGreatDoorRows.lean that lists a variable, with what it lists TIED to the program's text (the seventh form; the later family's looks); each row that meets fmt, with fmt's text TOLD by the authors' own Lean function (tested against real Go, not proved from fmt's source: count such statements apart). THE CARD IS WHAT COUNTS. Prove the row's statement (the work); the ties are given (YtpahnbgfmhcndaaGreatDoorTie.lean); close each card by the builder's one call (the guide's Derived/Test/ToyasCard.lean, 'card_holds'). Laid BY PROGRAM, IN A SANDBOX (cutbox-door.mjs). By AI agents, Wed Nov 11 2026. No macro, syntax, notation, axiom, sorry.
-/
import Derived.Test.YtpahnbgfmhcndaaGreatDoorRows
import GoSem.ClaimSeven
namespace Go.Proofs.YtpahnbgfmhcndaaGreatDoor
namespace Rows

/-- THE TIED CARD OF 'grommetlaw29.LintFinds'. -/
def lintFindsCard : Claim7 := { stood := { row := lintFindsRow, standIns := [], harness := (true, "c83b75dd236441772812fdda1b127fd763253e9d3ac742947f8c686ecd51050f"), looks := true }, kinds := [], alts := [], laidByText := true, laidKinds := [.data, .data, .data], laidTests := true, laidLooks := .later }
def LintFindsCardSaid : Prop := Claim7.holds Tryz.pinned (.plain (OpenSpec.ofChange lintFindsSpec)) lintFindsCard

/-- THE TIED CARD OF 'grommetlaw26.BudgetModules'. -/
def budgetModulesCard : Claim7 := { stood := { row := budgetModulesRow, standIns := [], harness := (true, "c83b75dd236441772812fdda1b127fd763253e9d3ac742947f8c686ecd51050f"), looks := true }, kinds := [], alts := [], laidByText := true, laidKinds := [.data, .data, .data, .data, .sentinel, .sentinel, .pinned], laidTests := true, laidLooks := .later }
def BudgetModulesCardSaid : Prop := Claim7.holds Tryz.pinned (.plain (OpenSpec.ofChange budgetModulesSpec)) budgetModulesCard

/-- THE SECOND FORM's CARD OF 'grommetlaw29.LintFinds'. -/
def lintFindsUptoCard : Claim7 := { stood := { row := lintFindsUptoRow, standIns := [], harness := (true, "c83b75dd236441772812fdda1b127fd763253e9d3ac742947f8c686ecd51050f"), looks := true }, kinds := [], alts := [], laidByText := true, laidKinds := [.data, .data, .data], laidTests := true, laidLooks := .later }
def LintFindsUptoCardSaid : Prop := Claim7.holds Tryz.pinned (.plain (OpenSpec.upto lintFindsSpec)) lintFindsUptoCard

/-- THE SECOND FORM's CARD OF 'grommetlaw26.BudgetModules'. -/
def budgetModulesUptoCard : Claim7 := { stood := { row := budgetModulesUptoRow, standIns := [], harness := (true, "c83b75dd236441772812fdda1b127fd763253e9d3ac742947f8c686ecd51050f"), looks := true }, kinds := [], alts := [], laidByText := true, laidKinds := [.data, .data, .data, .data, .sentinel, .sentinel, .pinned], laidTests := true, laidLooks := .later }
def BudgetModulesUptoCardSaid : Prop := Claim7.holds Tryz.pinned (.plain (OpenSpec.upto budgetModulesSpec)) budgetModulesUptoCard
end Rows
end Go.Proofs.YtpahnbgfmhcndaaGreatDoor
