/-
  DERIVED. GIVEN WITH THE SEED: THE CARDS: each row of YtiicgelmdmhajaaDoorRows.lean that lists a variable, with what it lists TIED to the program's text (the seventh form; the later family's looks); each row that meets fmt, with fmt's text TOLD by the authors' own Lean function (tested against real Go, not proved from fmt's source: count such statements apart). THE CARD IS WHAT COUNTS. Prove the row's statement (the work); the ties are given (YtiicgelmdmhajaaDoorTie.lean); close each card by the builder's one call (the guide's Derived/Test/ToyasCard.lean, 'card_holds'). Laid BY PROGRAM, IN A SANDBOX (cutbox-door.mjs). By AI agents, Wed Nov 11 2026. No macro, syntax, notation, axiom, sorry.
-/
import Derived.Test.YtiicgelmdmhajaaDoorRows
import GoSem.ClaimSeven
namespace Go.Proofs.YtiicgelmdmhajaaDoor
namespace Rows

/-- THE TIED CARD OF 'grommetlaw07.PagerZeros'. -/
def pagerZerosCard : Claim7 := { stood := { row := pagerZerosRow, standIns := [], harness := (true, "668b5fb40a1637f2222e8dcf93a76588dae78d0a86b2a97fd0da0e075b3b5ceb"), looks := false }, kinds := [], alts := [], laidByText := true, laidKinds := [.data, .pinned], laidTests := true, laidLooks := .later }
def PagerZerosCardSaid : Prop := Claim7.holds Tryd.pinned (.plain (OpenSpec.ofChange pagerZerosSpec)) pagerZerosCard

/-- THE TIED CARD OF 'grommetlaw08.SpaceGrows'. -/
def spaceGrowsCard : Claim7 := { stood := { row := spaceGrowsRow, standIns := [], harness := (true, "668b5fb40a1637f2222e8dcf93a76588dae78d0a86b2a97fd0da0e075b3b5ceb"), looks := false }, kinds := [], alts := [], laidByText := true, laidKinds := [.data, .pinned], laidTests := true, laidLooks := .later }
def SpaceGrowsCardSaid : Prop := Claim7.holds Tryd.pinned (.plain (OpenSpec.ofChange spaceGrowsSpec)) spaceGrowsCard

/-- THE TIED CARD OF 'grommetlaw08.SpaceOverlaps'. -/
def spaceOverlapsCard : Claim7 := { stood := { row := spaceOverlapsRow, standIns := [], harness := (true, "668b5fb40a1637f2222e8dcf93a76588dae78d0a86b2a97fd0da0e075b3b5ceb"), looks := false }, kinds := [], alts := [], laidByText := true, laidKinds := [.data, .pinned], laidTests := true, laidLooks := .later }
def SpaceOverlapsCardSaid : Prop := Claim7.holds Tryd.pinned (.plain (OpenSpec.ofChange spaceOverlapsSpec)) spaceOverlapsCard

/-- THE TIED CARD OF 'grommetlaw08.SpaceMakes'. -/
def spaceMakesCard : Claim7 := { stood := { row := spaceMakesRow, standIns := [], harness := (true, "668b5fb40a1637f2222e8dcf93a76588dae78d0a86b2a97fd0da0e075b3b5ceb"), looks := false }, kinds := [], alts := [], laidByText := true, laidKinds := [.data, .pinned], laidTests := true, laidLooks := .later }
def SpaceMakesCardSaid : Prop := Claim7.holds Tryd.pinned (.plain (OpenSpec.ofChange spaceMakesSpec)) spaceMakesCard

/-- THE TIED CARD OF 'grommetlaw08.SpaceNone'. -/
def spaceNoneCard : Claim7 := { stood := { row := spaceNoneRow, standIns := [], harness := (true, "668b5fb40a1637f2222e8dcf93a76588dae78d0a86b2a97fd0da0e075b3b5ceb"), looks := false }, kinds := [], alts := [], laidByText := true, laidKinds := [.data, .pinned], laidTests := true, laidLooks := .later }
def SpaceNoneCardSaid : Prop := Claim7.holds Tryd.pinned (.plain (OpenSpec.ofChange spaceNoneSpec)) spaceNoneCard

/-- THE TIED CARD OF 'grommetlaw08.SpacePlays'. -/
def spacePlaysCard : Claim7 := { stood := { row := spacePlaysRow, standIns := [], harness := (true, "668b5fb40a1637f2222e8dcf93a76588dae78d0a86b2a97fd0da0e075b3b5ceb"), looks := false }, kinds := [], alts := [], laidByText := true, laidKinds := [.data, .pinned], laidTests := true, laidLooks := .later }
def SpacePlaysCardSaid : Prop := Claim7.holds Tryd.pinned (.plain (OpenSpec.ofChange spacePlaysSpec)) spacePlaysCard

/-- THE TIED CARD OF 'grommetlaw07.PagerMems'. -/
def pagerMemsCard : Claim7 := { stood := { row := pagerMemsRow, standIns := [], harness := (true, "668b5fb40a1637f2222e8dcf93a76588dae78d0a86b2a97fd0da0e075b3b5ceb"), looks := false }, kinds := [], alts := [], laidByText := true, laidKinds := [.data, .pinned], laidTests := true, laidLooks := .later }
def PagerMemsCardSaid : Prop := Claim7.holds Tryd.pinned (.plain (OpenSpec.ofChange pagerMemsSpec)) pagerMemsCard

/-- THE TIED CARD OF 'grommetlaw07.PagerFrames'. -/
def pagerFramesCard : Claim7 := { stood := { row := pagerFramesRow, standIns := [], harness := (true, "668b5fb40a1637f2222e8dcf93a76588dae78d0a86b2a97fd0da0e075b3b5ceb"), looks := false }, kinds := [], alts := [], laidByText := true, laidKinds := [.data, .pinned], laidTests := true, laidLooks := .later }
def PagerFramesCardSaid : Prop := Claim7.holds Tryd.pinned (.plain (OpenSpec.ofChange pagerFramesSpec)) pagerFramesCard

/-- THE SECOND FORM's CARD OF 'grommetlaw07.PagerZeros'. -/
def pagerZerosUptoCard : Claim7 := { stood := { row := pagerZerosUptoRow, standIns := [], harness := (true, "668b5fb40a1637f2222e8dcf93a76588dae78d0a86b2a97fd0da0e075b3b5ceb"), looks := false }, kinds := [], alts := [], laidByText := true, laidKinds := [.data, .pinned], laidTests := true, laidLooks := .later }
def PagerZerosUptoCardSaid : Prop := Claim7.holds Tryd.pinned (.plain (OpenSpec.upto pagerZerosSpec)) pagerZerosUptoCard

/-- THE SECOND FORM's CARD OF 'grommetlaw08.SpaceGrows'. -/
def spaceGrowsUptoCard : Claim7 := { stood := { row := spaceGrowsUptoRow, standIns := [], harness := (true, "668b5fb40a1637f2222e8dcf93a76588dae78d0a86b2a97fd0da0e075b3b5ceb"), looks := false }, kinds := [], alts := [], laidByText := true, laidKinds := [.data, .pinned], laidTests := true, laidLooks := .later }
def SpaceGrowsUptoCardSaid : Prop := Claim7.holds Tryd.pinned (.plain (OpenSpec.upto spaceGrowsSpec)) spaceGrowsUptoCard

/-- THE SECOND FORM's CARD OF 'grommetlaw08.SpaceOverlaps'. -/
def spaceOverlapsUptoCard : Claim7 := { stood := { row := spaceOverlapsUptoRow, standIns := [], harness := (true, "668b5fb40a1637f2222e8dcf93a76588dae78d0a86b2a97fd0da0e075b3b5ceb"), looks := false }, kinds := [], alts := [], laidByText := true, laidKinds := [.data, .pinned], laidTests := true, laidLooks := .later }
def SpaceOverlapsUptoCardSaid : Prop := Claim7.holds Tryd.pinned (.plain (OpenSpec.upto spaceOverlapsSpec)) spaceOverlapsUptoCard

/-- THE SECOND FORM's CARD OF 'grommetlaw08.SpaceMakes'. -/
def spaceMakesUptoCard : Claim7 := { stood := { row := spaceMakesUptoRow, standIns := [], harness := (true, "668b5fb40a1637f2222e8dcf93a76588dae78d0a86b2a97fd0da0e075b3b5ceb"), looks := false }, kinds := [], alts := [], laidByText := true, laidKinds := [.data, .pinned], laidTests := true, laidLooks := .later }
def SpaceMakesUptoCardSaid : Prop := Claim7.holds Tryd.pinned (.plain (OpenSpec.upto spaceMakesSpec)) spaceMakesUptoCard

/-- THE SECOND FORM's CARD OF 'grommetlaw08.SpaceNone'. -/
def spaceNoneUptoCard : Claim7 := { stood := { row := spaceNoneUptoRow, standIns := [], harness := (true, "668b5fb40a1637f2222e8dcf93a76588dae78d0a86b2a97fd0da0e075b3b5ceb"), looks := false }, kinds := [], alts := [], laidByText := true, laidKinds := [.data, .pinned], laidTests := true, laidLooks := .later }
def SpaceNoneUptoCardSaid : Prop := Claim7.holds Tryd.pinned (.plain (OpenSpec.upto spaceNoneSpec)) spaceNoneUptoCard

/-- THE SECOND FORM's CARD OF 'grommetlaw08.SpacePlays'. -/
def spacePlaysUptoCard : Claim7 := { stood := { row := spacePlaysUptoRow, standIns := [], harness := (true, "668b5fb40a1637f2222e8dcf93a76588dae78d0a86b2a97fd0da0e075b3b5ceb"), looks := false }, kinds := [], alts := [], laidByText := true, laidKinds := [.data, .pinned], laidTests := true, laidLooks := .later }
def SpacePlaysUptoCardSaid : Prop := Claim7.holds Tryd.pinned (.plain (OpenSpec.upto spacePlaysSpec)) spacePlaysUptoCard

/-- THE SECOND FORM's CARD OF 'grommetlaw07.PagerMems'. -/
def pagerMemsUptoCard : Claim7 := { stood := { row := pagerMemsUptoRow, standIns := [], harness := (true, "668b5fb40a1637f2222e8dcf93a76588dae78d0a86b2a97fd0da0e075b3b5ceb"), looks := false }, kinds := [], alts := [], laidByText := true, laidKinds := [.data, .pinned], laidTests := true, laidLooks := .later }
def PagerMemsUptoCardSaid : Prop := Claim7.holds Tryd.pinned (.plain (OpenSpec.upto pagerMemsSpec)) pagerMemsUptoCard

/-- THE SECOND FORM's CARD OF 'grommetlaw07.PagerFrames'. -/
def pagerFramesUptoCard : Claim7 := { stood := { row := pagerFramesUptoRow, standIns := [], harness := (true, "668b5fb40a1637f2222e8dcf93a76588dae78d0a86b2a97fd0da0e075b3b5ceb"), looks := false }, kinds := [], alts := [], laidByText := true, laidKinds := [.data, .pinned], laidTests := true, laidLooks := .later }
def PagerFramesUptoCardSaid : Prop := Claim7.holds Tryd.pinned (.plain (OpenSpec.upto pagerFramesSpec)) pagerFramesUptoCard
end Rows
end Go.Proofs.YtiicgelmdmhajaaDoor
