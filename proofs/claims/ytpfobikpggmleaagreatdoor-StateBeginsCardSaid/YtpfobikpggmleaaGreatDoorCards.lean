/-
  DERIVED. GIVEN WITH THE SEED: THE CARDS: each row of YtpfobikpggmleaaGreatDoorRows.lean that lists a variable, with what it lists TIED to the program's text (the seventh form; the later family's looks); each row that meets fmt, with fmt's text TOLD by the authors' own Lean function (tested against real Go, not proved from fmt's source: count such statements apart). THE CARD IS WHAT COUNTS. Prove the row's statement (the work); the ties are given (YtpfobikpggmleaaGreatDoorTie.lean); close each card by the builder's one call (the guide's Derived/Test/ToyasCard.lean, 'card_holds'). Laid BY PROGRAM, IN A SANDBOX (cutbox-door.mjs). By AI agents, Wed Nov 11 2026. No macro, syntax, notation, axiom, sorry.
-/
import Derived.Test.YtpfobikpggmleaaGreatDoorRows
import GoSem.ClaimSeven
namespace Go.Proofs.YtpfobikpggmleaaGreatDoor
namespace Rows

/-- THE TIED CARD OF 'grommetlaw21.StateRooms'. -/
def stateRoomsCard : Claim7 := { stood := { row := stateRoomsRow, standIns := [], harness := (true, "822a16f0e905357e3ca86752b0e15d406af0f440bd2ab35f4d74fdbd14efd643"), looks := true }, kinds := [], alts := [], laidByText := true, laidKinds := [.data, .pinned], laidTests := true, laidLooks := .later }
def StateRoomsCardSaid : Prop := Claim7.holds Tryz.pinned (.plain (OpenSpec.ofChange stateRoomsSpec)) stateRoomsCard

/-- THE TIED CARD OF 'grommetlaw21.StateFails'. -/
def stateFailsCard : Claim7 := { stood := { row := stateFailsRow, standIns := [], harness := (true, "822a16f0e905357e3ca86752b0e15d406af0f440bd2ab35f4d74fdbd14efd643"), looks := true }, kinds := [], alts := [], laidByText := true, laidKinds := [.data, .pinned], laidTests := true, laidLooks := .later }
def StateFailsCardSaid : Prop := Claim7.holds Tryz.pinned (.plain (OpenSpec.ofChange stateFailsSpec)) stateFailsCard

/-- THE TIED CARD OF 'grommetlaw21.StateApart'. -/
def stateApartCard : Claim7 := { stood := { row := stateApartRow, standIns := [], harness := (true, "822a16f0e905357e3ca86752b0e15d406af0f440bd2ab35f4d74fdbd14efd643"), looks := true }, kinds := [], alts := [], laidByText := true, laidKinds := [.data, .pinned], laidTests := true, laidLooks := .later }
def StateApartCardSaid : Prop := Claim7.holds Tryz.pinned (.plain (OpenSpec.ofChange stateApartSpec)) stateApartCard

/-- THE TIED CARD OF 'grommetlaw21.StateBegins'. -/
def stateBeginsCard : Claim7 := { stood := { row := stateBeginsRow, standIns := [], harness := (true, "822a16f0e905357e3ca86752b0e15d406af0f440bd2ab35f4d74fdbd14efd643"), looks := true }, kinds := [], alts := [], laidByText := true, laidKinds := [.data, .pinned], laidTests := true, laidLooks := .later }
def StateBeginsCardSaid : Prop := Claim7.holds Tryz.pinned (.plain (OpenSpec.ofChange stateBeginsSpec)) stateBeginsCard

/-- THE SECOND FORM's CARD OF 'grommetlaw21.StateRooms'. -/
def stateRoomsUptoCard : Claim7 := { stood := { row := stateRoomsUptoRow, standIns := [], harness := (true, "822a16f0e905357e3ca86752b0e15d406af0f440bd2ab35f4d74fdbd14efd643"), looks := true }, kinds := [], alts := [], laidByText := true, laidKinds := [.data, .pinned], laidTests := true, laidLooks := .later }
def StateRoomsUptoCardSaid : Prop := Claim7.holds Tryz.pinned (.plain (OpenSpec.upto stateRoomsSpec)) stateRoomsUptoCard

/-- THE SECOND FORM's CARD OF 'grommetlaw21.StateFails'. -/
def stateFailsUptoCard : Claim7 := { stood := { row := stateFailsUptoRow, standIns := [], harness := (true, "822a16f0e905357e3ca86752b0e15d406af0f440bd2ab35f4d74fdbd14efd643"), looks := true }, kinds := [], alts := [], laidByText := true, laidKinds := [.data, .pinned], laidTests := true, laidLooks := .later }
def StateFailsUptoCardSaid : Prop := Claim7.holds Tryz.pinned (.plain (OpenSpec.upto stateFailsSpec)) stateFailsUptoCard

/-- THE SECOND FORM's CARD OF 'grommetlaw21.StateApart'. -/
def stateApartUptoCard : Claim7 := { stood := { row := stateApartUptoRow, standIns := [], harness := (true, "822a16f0e905357e3ca86752b0e15d406af0f440bd2ab35f4d74fdbd14efd643"), looks := true }, kinds := [], alts := [], laidByText := true, laidKinds := [.data, .pinned], laidTests := true, laidLooks := .later }
def StateApartUptoCardSaid : Prop := Claim7.holds Tryz.pinned (.plain (OpenSpec.upto stateApartSpec)) stateApartUptoCard

/-- THE SECOND FORM's CARD OF 'grommetlaw21.StateBegins'. -/
def stateBeginsUptoCard : Claim7 := { stood := { row := stateBeginsUptoRow, standIns := [], harness := (true, "822a16f0e905357e3ca86752b0e15d406af0f440bd2ab35f4d74fdbd14efd643"), looks := true }, kinds := [], alts := [], laidByText := true, laidKinds := [.data, .pinned], laidTests := true, laidLooks := .later }
def StateBeginsUptoCardSaid : Prop := Claim7.holds Tryz.pinned (.plain (OpenSpec.upto stateBeginsSpec)) stateBeginsUptoCard
end Rows
end Go.Proofs.YtpfobikpggmleaaGreatDoor
