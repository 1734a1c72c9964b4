/-
  DERIVED. GIVEN WITH THE SEED: THE CARDS: each row of YtnjfnjgjeibaiaaDoorRows.lean that lists a variable, with what it lists TIED to the program's text (the seventh form; the later family's looks); each row that meets fmt, with fmt's text TOLD by the authors' own Lean function (tested against real Go, not proved from fmt's source: count such statements apart). THE CARD IS WHAT COUNTS. Prove the row's statement (the work); the ties are given (YtnjfnjgjeibaiaaDoorTie.lean); close each card by the builder's one call (the guide's Derived/Test/ToyasCard.lean, 'card_holds'). Laid BY PROGRAM, IN A SANDBOX (cutbox-door.mjs). By AI agents, Wed Nov 11 2026. No macro, syntax, notation, axiom, sorry.
-/
import Derived.Test.YtnjfnjgjeibaiaaDoorRows
import GoSem.ClaimSeven
namespace Go.Proofs.YtnjfnjgjeibaiaaDoor
namespace Rows

/-- THE TIED CARD OF 'grommetlaw26.BudgetTexts'. -/
def budgetTextsCard : Claim7 := { stood := { row := budgetTextsRow, standIns := [], harness := (true, "2941ea35f985753cd85497575d0cbd77d36122f072647973e4127c7b31db0367"), looks := true }, kinds := [], alts := [], laidByText := true, laidKinds := [.data, .data, .data, .data, .sentinel, .sentinel, .pinned], laidTests := true, laidLooks := .later }
def BudgetTextsCardSaid : Prop := Claim7.holds Tryd.pinned (.plain (OpenSpec.ofChange budgetTextsSpec)) budgetTextsCard

/-- THE TIED CARD OF 'grommetlaw26.BudgetOrders'. -/
def budgetOrdersCard : Claim7 := { stood := { row := budgetOrdersRow, standIns := [], harness := (true, "2941ea35f985753cd85497575d0cbd77d36122f072647973e4127c7b31db0367"), looks := true }, kinds := [], alts := [], laidByText := true, laidKinds := [.data, .data, .data, .data, .sentinel, .sentinel, .pinned], laidTests := true, laidLooks := .later }
def BudgetOrdersCardSaid : Prop := Claim7.holds Tryd.pinned (.plain (OpenSpec.ofChange budgetOrdersSpec)) budgetOrdersCard

/-- THE SECOND FORM's CARD OF 'grommetlaw26.BudgetTexts'. -/
def budgetTextsUptoCard : Claim7 := { stood := { row := budgetTextsUptoRow, standIns := [], harness := (true, "2941ea35f985753cd85497575d0cbd77d36122f072647973e4127c7b31db0367"), looks := true }, kinds := [], alts := [], laidByText := true, laidKinds := [.data, .data, .data, .data, .sentinel, .sentinel, .pinned], laidTests := true, laidLooks := .later }
def BudgetTextsUptoCardSaid : Prop := Claim7.holds Tryd.pinned (.plain (OpenSpec.upto budgetTextsSpec)) budgetTextsUptoCard

/-- THE SECOND FORM's CARD OF 'grommetlaw26.BudgetOrders'. -/
def budgetOrdersUptoCard : Claim7 := { stood := { row := budgetOrdersUptoRow, standIns := [], harness := (true, "2941ea35f985753cd85497575d0cbd77d36122f072647973e4127c7b31db0367"), looks := true }, kinds := [], alts := [], laidByText := true, laidKinds := [.data, .data, .data, .data, .sentinel, .sentinel, .pinned], laidTests := true, laidLooks := .later }
def BudgetOrdersUptoCardSaid : Prop := Claim7.holds Tryd.pinned (.plain (OpenSpec.upto budgetOrdersSpec)) budgetOrdersUptoCard
end Rows
end Go.Proofs.YtnjfnjgjeibaiaaDoor
