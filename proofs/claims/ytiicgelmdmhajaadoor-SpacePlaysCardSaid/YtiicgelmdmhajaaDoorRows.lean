/-
  NARROWER THAN 'FOR EVERY INPUT', by the rows' own cells (each row's printed sentence says how): PagerZeros: laid · SpaceGrows: laid · SpaceOverlaps: laid · SpaceMakes: laid · SpaceNone: laid · SpacePlays: laid · PagerMems: laid · PagerFrames: laid.
  DERIVED. THE GIVEN ROWS OF THIS SEAT. 8 by the template 'for every input the law returns true; each argument reads behind the call as it read before'; 0 by the template 'total and deterministic' (their statements: YtiicgelmdmhajaaDoorTotals.lean).
  GIVEN WITH THE SEED: the statements are not yours to turn. If you find one false, say at which input.
  Laid BY PROGRAM, IN A SANDBOX (cutbox-rows.mjs): the forced cells as the released guide's own fill.sh prints them over the translation f1f1466354a29a2d… (all of the seat's roots in one cut). By AI agents, Wed Nov 11 2026. No macro, syntax, notation, axiom, sorry.
-/
import Derived.Test.YtiicgelmdmhajaaDoorChecked
import GoSem.PinnedTables
import GoSem.Claim
import GoSem.ClaimJoined
import GoSem.ClaimMapViews
import Derived.JoinedTies
import Derived.KernelRfl
namespace Go.Proofs.YtiicgelmdmhajaaDoor
/- THE CELL 'sum', in the pinned program and in every row, IS THE sha256 OF THE DUMP (.gsa) THAT YtiicgelmdmhajaaDoorProg.lean LOADS. Nothing in Lean hashes anything: it is a label: what it is worth is what the hold of that sum in a sandbox is worth. -/
noncomputable def Tryd.pinned : Pinned := { name := "ytiicgelmdmhajaadoor", sum := "f1f1466354a29a2d3af053ead5f7befc23beaafeaae444a6731efc82ddc6a934", checked := Tryd.checked }
namespace Rows
def none {H : Type} : Left H := { results := [], args := [] }

/- WHAT THE LISTED PACKAGE-LEVEL VARIABLES READ AS WHEN THE CALL BEGINS. Each datum BY PROGRAM (the guide's laid-datum.mjs) off the statement by which the dump's own 'gosem.cut.vars' lays the variable. In a bare row this is a premise. The card (YtiicgelmdmhajaaDoorCards.lean) ties it to the program's text. -/
def laid_unicode_utf8_acceptRanges {H : Type} : DataW H := .agg [.agg [.lit (.int .u8 128), .lit (.int .u8 191)], .agg [.lit (.int .u8 160), .lit (.int .u8 191)], .agg [.lit (.int .u8 128), .lit (.int .u8 159)], .agg [.lit (.int .u8 144), .lit (.int .u8 191)], .agg [.lit (.int .u8 128), .lit (.int .u8 143)], .agg [.lit (.int .u8 0), .lit (.int .u8 0)], .agg [.lit (.int .u8 0), .lit (.int .u8 0)], .agg [.lit (.int .u8 0), .lit (.int .u8 0)], .agg [.lit (.int .u8 0), .lit (.int .u8 0)], .agg [.lit (.int .u8 0), .lit (.int .u8 0)], .agg [.lit (.int .u8 0), .lit (.int .u8 0)], .agg [.lit (.int .u8 0), .lit (.int .u8 0)], .agg [.lit (.int .u8 0), .lit (.int .u8 0)], .agg [.lit (.int .u8 0), .lit (.int .u8 0)], .agg [.lit (.int .u8 0), .lit (.int .u8 0)], .agg [.lit (.int .u8 0), .lit (.int .u8 0)]]
/-- One of Go's own tables, pinned by name: the form's constant. -/
def laid_unicode_utf8_first : DataW Unit := Go.Pinned.utf8First

/-- 'grommetlaw07.PagerZeros': WHATEVER THE INPUT: true; the input reads as it did. -/
def pagerZerosSpec : ChangeSpec := { name := "pagerZeros", fn := fun _ => fun
  | [d1, d2] => { results := [.lit (.bool true)], args := [d1, d2] }
  | _ => none }
def pagerZerosRow : OpenClaim := { program := "ytiicgelmdmhajaadoor", sum := "f1f1466354a29a2d3af053ead5f7befc23beaafeaae444a6731efc82ddc6a934", func := "grommet/grommetlaw07.PagerZeros", spec := "pagerZeros", inPlace := ["sync/atomic.AddInt64"], unfollowed := true, recurses := true, named := ["unicode/utf8.first", "unicode/utf8.acceptRanges"], plainKeys := false, apart := false, laid := [("unicode/utf8.acceptRanges", laid_unicode_utf8_acceptRanges), ("unicode/utf8.first", laid_unicode_utf8_first)] }
def PagerZerosSaid : Prop := pagerZerosRow.holds Tryd.pinned (OpenSpec.ofChange pagerZerosSpec)

/-- ITS FALSE NEIGHBOUR: 'it returns false'. Refute it at one input. -/
def pagerZerosWrong : ChangeSpec := { name := "pagerZeros", fn := fun _ => fun
  | [d1, d2] => { results := [.lit (.bool false)], args := [d1, d2] }
  | _ => none }
def PagerZerosWrongFalsely : Prop := pagerZerosRow.holds Tryd.pinned (OpenSpec.ofChange pagerZerosWrong)

/-- 'grommetlaw08.SpaceGrows': WHATEVER THE INPUT: true; the input reads as it did. -/
def spaceGrowsSpec : ChangeSpec := { name := "spaceGrows", fn := fun _ => fun
  | [d1, d2, d3, d4, d5] => { results := [.lit (.bool true)], args := [d1, d2, d3, d4, d5] }
  | _ => none }
def spaceGrowsRow : OpenClaim := { program := "ytiicgelmdmhajaadoor", sum := "f1f1466354a29a2d3af053ead5f7befc23beaafeaae444a6731efc82ddc6a934", func := "grommet/grommetlaw08.SpaceGrows", spec := "spaceGrows", inPlace := ["sync/atomic.AddInt64"], unfollowed := true, recurses := true, named := ["unicode/utf8.first", "unicode/utf8.acceptRanges"], plainKeys := false, apart := false, laid := [("unicode/utf8.acceptRanges", laid_unicode_utf8_acceptRanges), ("unicode/utf8.first", laid_unicode_utf8_first)] }
def SpaceGrowsSaid : Prop := spaceGrowsRow.holds Tryd.pinned (OpenSpec.ofChange spaceGrowsSpec)

/-- ITS FALSE NEIGHBOUR: 'it returns false'. Refute it at one input. -/
def spaceGrowsWrong : ChangeSpec := { name := "spaceGrows", fn := fun _ => fun
  | [d1, d2, d3, d4, d5] => { results := [.lit (.bool false)], args := [d1, d2, d3, d4, d5] }
  | _ => none }
def SpaceGrowsWrongFalsely : Prop := spaceGrowsRow.holds Tryd.pinned (OpenSpec.ofChange spaceGrowsWrong)

/-- 'grommetlaw08.SpaceOverlaps': WHATEVER THE INPUT: true; the input reads as it did. -/
def spaceOverlapsSpec : ChangeSpec := { name := "spaceOverlaps", fn := fun _ => fun
  | [d1, d2, d3, d4] => { results := [.lit (.bool true)], args := [d1, d2, d3, d4] }
  | _ => none }
def spaceOverlapsRow : OpenClaim := { program := "ytiicgelmdmhajaadoor", sum := "f1f1466354a29a2d3af053ead5f7befc23beaafeaae444a6731efc82ddc6a934", func := "grommet/grommetlaw08.SpaceOverlaps", spec := "spaceOverlaps", inPlace := ["sync/atomic.AddInt64"], unfollowed := true, recurses := true, named := ["unicode/utf8.first", "unicode/utf8.acceptRanges"], plainKeys := false, apart := false, laid := [("unicode/utf8.acceptRanges", laid_unicode_utf8_acceptRanges), ("unicode/utf8.first", laid_unicode_utf8_first)] }
def SpaceOverlapsSaid : Prop := spaceOverlapsRow.holds Tryd.pinned (OpenSpec.ofChange spaceOverlapsSpec)

/-- ITS FALSE NEIGHBOUR: 'it returns false'. Refute it at one input. -/
def spaceOverlapsWrong : ChangeSpec := { name := "spaceOverlaps", fn := fun _ => fun
  | [d1, d2, d3, d4] => { results := [.lit (.bool false)], args := [d1, d2, d3, d4] }
  | _ => none }
def SpaceOverlapsWrongFalsely : Prop := spaceOverlapsRow.holds Tryd.pinned (OpenSpec.ofChange spaceOverlapsWrong)

/-- 'grommetlaw08.SpaceMakes': WHATEVER THE INPUT: true; the input reads as it did. -/
def spaceMakesSpec : ChangeSpec := { name := "spaceMakes", fn := fun _ => fun
  | [d1, d2, d3, d4, d5] => { results := [.lit (.bool true)], args := [d1, d2, d3, d4, d5] }
  | _ => none }
def spaceMakesRow : OpenClaim := { program := "ytiicgelmdmhajaadoor", sum := "f1f1466354a29a2d3af053ead5f7befc23beaafeaae444a6731efc82ddc6a934", func := "grommet/grommetlaw08.SpaceMakes", spec := "spaceMakes", inPlace := ["sync/atomic.AddInt64", "internal/bytealg.MakeNoZero"], unfollowed := true, recurses := true, named := ["unicode/utf8.first", "unicode/utf8.acceptRanges"], plainKeys := false, apart := false, laid := [("unicode/utf8.acceptRanges", laid_unicode_utf8_acceptRanges), ("unicode/utf8.first", laid_unicode_utf8_first)] }
def SpaceMakesSaid : Prop := spaceMakesRow.holds Tryd.pinned (OpenSpec.ofChange spaceMakesSpec)

/-- ITS FALSE NEIGHBOUR: 'it returns false'. Refute it at one input. -/
def spaceMakesWrong : ChangeSpec := { name := "spaceMakes", fn := fun _ => fun
  | [d1, d2, d3, d4, d5] => { results := [.lit (.bool false)], args := [d1, d2, d3, d4, d5] }
  | _ => none }
def SpaceMakesWrongFalsely : Prop := spaceMakesRow.holds Tryd.pinned (OpenSpec.ofChange spaceMakesWrong)

/-- 'grommetlaw08.SpaceNone': WHATEVER THE INPUT: true; the input reads as it did. -/
def spaceNoneSpec : ChangeSpec := { name := "spaceNone", fn := fun _ => fun
  | [d1, d2, d3] => { results := [.lit (.bool true)], args := [d1, d2, d3] }
  | _ => none }
def spaceNoneRow : OpenClaim := { program := "ytiicgelmdmhajaadoor", sum := "f1f1466354a29a2d3af053ead5f7befc23beaafeaae444a6731efc82ddc6a934", func := "grommet/grommetlaw08.SpaceNone", spec := "spaceNone", inPlace := ["sync/atomic.AddInt64", "internal/bytealg.MakeNoZero"], unfollowed := true, recurses := true, named := ["unicode/utf8.first", "unicode/utf8.acceptRanges"], plainKeys := false, apart := false, laid := [("unicode/utf8.acceptRanges", laid_unicode_utf8_acceptRanges), ("unicode/utf8.first", laid_unicode_utf8_first)] }
def SpaceNoneSaid : Prop := spaceNoneRow.holds Tryd.pinned (OpenSpec.ofChange spaceNoneSpec)

/-- ITS FALSE NEIGHBOUR: 'it returns false'. Refute it at one input. -/
def spaceNoneWrong : ChangeSpec := { name := "spaceNone", fn := fun _ => fun
  | [d1, d2, d3] => { results := [.lit (.bool false)], args := [d1, d2, d3] }
  | _ => none }
def SpaceNoneWrongFalsely : Prop := spaceNoneRow.holds Tryd.pinned (OpenSpec.ofChange spaceNoneWrong)

/-- 'grommetlaw08.SpacePlays': WHATEVER THE INPUT: true; the input reads as it did. -/
def spacePlaysSpec : ChangeSpec := { name := "spacePlays", fn := fun _ => fun
  | [d1, d2, d3] => { results := [.lit (.bool true)], args := [d1, d2, d3] }
  | _ => none }
def spacePlaysRow : OpenClaim := { program := "ytiicgelmdmhajaadoor", sum := "f1f1466354a29a2d3af053ead5f7befc23beaafeaae444a6731efc82ddc6a934", func := "grommet/grommetlaw08.SpacePlays", spec := "spacePlays", inPlace := ["sync/atomic.AddInt64", "internal/bytealg.MakeNoZero"], unfollowed := true, recurses := true, named := ["unicode/utf8.first", "unicode/utf8.acceptRanges"], plainKeys := false, apart := false, laid := [("unicode/utf8.acceptRanges", laid_unicode_utf8_acceptRanges), ("unicode/utf8.first", laid_unicode_utf8_first)] }
def SpacePlaysSaid : Prop := spacePlaysRow.holds Tryd.pinned (OpenSpec.ofChange spacePlaysSpec)

/-- ITS FALSE NEIGHBOUR: 'it returns false'. Refute it at one input. -/
def spacePlaysWrong : ChangeSpec := { name := "spacePlays", fn := fun _ => fun
  | [d1, d2, d3] => { results := [.lit (.bool false)], args := [d1, d2, d3] }
  | _ => none }
def SpacePlaysWrongFalsely : Prop := spacePlaysRow.holds Tryd.pinned (OpenSpec.ofChange spacePlaysWrong)

/-- 'grommetlaw07.PagerMems': WHATEVER THE INPUT: true; the input reads as it did. -/
def pagerMemsSpec : ChangeSpec := { name := "pagerMems", fn := fun _ => fun
  | [d1, d2] => { results := [.lit (.bool true)], args := [d1, d2] }
  | _ => none }
def pagerMemsRow : OpenClaim := { program := "ytiicgelmdmhajaadoor", sum := "f1f1466354a29a2d3af053ead5f7befc23beaafeaae444a6731efc82ddc6a934", func := "grommet/grommetlaw07.PagerMems", spec := "pagerMems", inPlace := ["sync/atomic.AddInt64"], unfollowed := true, recurses := true, named := ["unicode/utf8.first", "unicode/utf8.acceptRanges"], plainKeys := false, apart := false, laid := [("unicode/utf8.acceptRanges", laid_unicode_utf8_acceptRanges), ("unicode/utf8.first", laid_unicode_utf8_first)] }
def PagerMemsSaid : Prop := pagerMemsRow.holds Tryd.pinned (OpenSpec.ofChange pagerMemsSpec)

/-- ITS FALSE NEIGHBOUR: 'it returns false'. Refute it at one input. -/
def pagerMemsWrong : ChangeSpec := { name := "pagerMems", fn := fun _ => fun
  | [d1, d2] => { results := [.lit (.bool false)], args := [d1, d2] }
  | _ => none }
def PagerMemsWrongFalsely : Prop := pagerMemsRow.holds Tryd.pinned (OpenSpec.ofChange pagerMemsWrong)

/-- 'grommetlaw07.PagerFrames': WHATEVER THE INPUT: true; the input reads as it did. -/
def pagerFramesSpec : ChangeSpec := { name := "pagerFrames", fn := fun _ => fun
  | [d1, d2] => { results := [.lit (.bool true)], args := [d1, d2] }
  | _ => none }
def pagerFramesRow : OpenClaim := { program := "ytiicgelmdmhajaadoor", sum := "f1f1466354a29a2d3af053ead5f7befc23beaafeaae444a6731efc82ddc6a934", func := "grommet/grommetlaw07.PagerFrames", spec := "pagerFrames", inPlace := ["sync/atomic.AddInt64"], unfollowed := true, recurses := true, named := ["unicode/utf8.first", "unicode/utf8.acceptRanges"], plainKeys := false, apart := false, laid := [("unicode/utf8.acceptRanges", laid_unicode_utf8_acceptRanges), ("unicode/utf8.first", laid_unicode_utf8_first)] }
def PagerFramesSaid : Prop := pagerFramesRow.holds Tryd.pinned (OpenSpec.ofChange pagerFramesSpec)

/-- ITS FALSE NEIGHBOUR: 'it returns false'. Refute it at one input. -/
def pagerFramesWrong : ChangeSpec := { name := "pagerFrames", fn := fun _ => fun
  | [d1, d2] => { results := [.lit (.bool false)], args := [d1, d2] }
  | _ => none }
def PagerFramesWrongFalsely : Prop := pagerFramesRow.holds Tryd.pinned (OpenSpec.ofChange pagerFramesWrong)

/- THE SECOND FORM. 'bulk': how many values and letters a reading holds, each counted each time it is reached (what is shared counts as often as it is met; a slice's spare places count too). A statement '..UptoSaid' is the law's where the arguments, and the package variables that the reading takes, are together of bulk at most 1048576: NARROWER than '..Said'. Prove '..Said' where nothing that the law and all that it calls make is longer than what came in: it says more and counts as full. Else prove '..UptoSaid'. A law counts once. -/
mutual
def uptoBulk {H : Type} : DataW H → Nat
  | .lit (.string bytes) => bytes.length + 1
  | .lit _ => 1
  | .nil => 1
  | .ptr d => uptoBulk d + 1
  | .slice elems spare => uptoBulkAll elems + uptoBulkAll spare + 1
  | .agg parts => uptoBulkAll parts + 1
  | .iface _ d => uptoBulk d + 1
  | .map entries => uptoBulkEntries entries + 1
  | .held _ => 1
def uptoBulkAll {H : Type} : List (DataW H) → Nat
  | [] => 0
  | d :: r => uptoBulk d + uptoBulkAll r
def uptoBulkEntries {H : Type} : List (Lit × DataW H) → Nat
  | [] => 0
  | x :: r => uptoBulkEntry x + uptoBulkEntries r
def uptoBulkEntry {H : Type} : Lit × DataW H → Nat
  | (.string bytes, d) => bytes.length + uptoBulk d + 1
  | (_, d) => uptoBulk d + 1
 end
def uptoSmall : (H : Type) → List (DataW H) → Bool := fun _ ds => decide (uptoBulkAll ds ≤ 1048576)
def OpenSpec.upto (s : _root_.Go.ChangeSpec) : _root_.Go.OpenSpec := { _root_.Go.OpenSpec.ofChange s with cond := some uptoSmall }

/-- 'grommetlaw07.PagerZeros', WHERE WHAT IT READS IS OF BULK AT MOST 1048576: true; the input reads as it did. -/
def pagerZerosUptoRow : OpenClaim := { program := "ytiicgelmdmhajaadoor", sum := "f1f1466354a29a2d3af053ead5f7befc23beaafeaae444a6731efc82ddc6a934", func := "grommet/grommetlaw07.PagerZeros", spec := "pagerZeros", inPlace := ["sync/atomic.AddInt64"], unfollowed := true, recurses := true, named := ["unicode/utf8.first", "unicode/utf8.acceptRanges"], plainKeys := false, apart := false, laid := [("unicode/utf8.acceptRanges", laid_unicode_utf8_acceptRanges), ("unicode/utf8.first", laid_unicode_utf8_first)], narrowed := true }
def PagerZerosUptoSaid : Prop := pagerZerosUptoRow.holds Tryd.pinned (OpenSpec.upto pagerZerosSpec)

/-- 'grommetlaw08.SpaceGrows', WHERE WHAT IT READS IS OF BULK AT MOST 1048576: true; the input reads as it did. -/
def spaceGrowsUptoRow : OpenClaim := { program := "ytiicgelmdmhajaadoor", sum := "f1f1466354a29a2d3af053ead5f7befc23beaafeaae444a6731efc82ddc6a934", func := "grommet/grommetlaw08.SpaceGrows", spec := "spaceGrows", inPlace := ["sync/atomic.AddInt64"], unfollowed := true, recurses := true, named := ["unicode/utf8.first", "unicode/utf8.acceptRanges"], plainKeys := false, apart := false, laid := [("unicode/utf8.acceptRanges", laid_unicode_utf8_acceptRanges), ("unicode/utf8.first", laid_unicode_utf8_first)], narrowed := true }
def SpaceGrowsUptoSaid : Prop := spaceGrowsUptoRow.holds Tryd.pinned (OpenSpec.upto spaceGrowsSpec)

/-- 'grommetlaw08.SpaceOverlaps', WHERE WHAT IT READS IS OF BULK AT MOST 1048576: true; the input reads as it did. -/
def spaceOverlapsUptoRow : OpenClaim := { program := "ytiicgelmdmhajaadoor", sum := "f1f1466354a29a2d3af053ead5f7befc23beaafeaae444a6731efc82ddc6a934", func := "grommet/grommetlaw08.SpaceOverlaps", spec := "spaceOverlaps", inPlace := ["sync/atomic.AddInt64"], unfollowed := true, recurses := true, named := ["unicode/utf8.first", "unicode/utf8.acceptRanges"], plainKeys := false, apart := false, laid := [("unicode/utf8.acceptRanges", laid_unicode_utf8_acceptRanges), ("unicode/utf8.first", laid_unicode_utf8_first)], narrowed := true }
def SpaceOverlapsUptoSaid : Prop := spaceOverlapsUptoRow.holds Tryd.pinned (OpenSpec.upto spaceOverlapsSpec)

/-- 'grommetlaw08.SpaceMakes', WHERE WHAT IT READS IS OF BULK AT MOST 1048576: true; the input reads as it did. -/
def spaceMakesUptoRow : OpenClaim := { program := "ytiicgelmdmhajaadoor", sum := "f1f1466354a29a2d3af053ead5f7befc23beaafeaae444a6731efc82ddc6a934", func := "grommet/grommetlaw08.SpaceMakes", spec := "spaceMakes", inPlace := ["sync/atomic.AddInt64", "internal/bytealg.MakeNoZero"], unfollowed := true, recurses := true, named := ["unicode/utf8.first", "unicode/utf8.acceptRanges"], plainKeys := false, apart := false, laid := [("unicode/utf8.acceptRanges", laid_unicode_utf8_acceptRanges), ("unicode/utf8.first", laid_unicode_utf8_first)], narrowed := true }
def SpaceMakesUptoSaid : Prop := spaceMakesUptoRow.holds Tryd.pinned (OpenSpec.upto spaceMakesSpec)

/-- 'grommetlaw08.SpaceNone', WHERE WHAT IT READS IS OF BULK AT MOST 1048576: true; the input reads as it did. -/
def spaceNoneUptoRow : OpenClaim := { program := "ytiicgelmdmhajaadoor", sum := "f1f1466354a29a2d3af053ead5f7befc23beaafeaae444a6731efc82ddc6a934", func := "grommet/grommetlaw08.SpaceNone", spec := "spaceNone", inPlace := ["sync/atomic.AddInt64", "internal/bytealg.MakeNoZero"], unfollowed := true, recurses := true, named := ["unicode/utf8.first", "unicode/utf8.acceptRanges"], plainKeys := false, apart := false, laid := [("unicode/utf8.acceptRanges", laid_unicode_utf8_acceptRanges), ("unicode/utf8.first", laid_unicode_utf8_first)], narrowed := true }
def SpaceNoneUptoSaid : Prop := spaceNoneUptoRow.holds Tryd.pinned (OpenSpec.upto spaceNoneSpec)

/-- 'grommetlaw08.SpacePlays', WHERE WHAT IT READS IS OF BULK AT MOST 1048576: true; the input reads as it did. -/
def spacePlaysUptoRow : OpenClaim := { program := "ytiicgelmdmhajaadoor", sum := "f1f1466354a29a2d3af053ead5f7befc23beaafeaae444a6731efc82ddc6a934", func := "grommet/grommetlaw08.SpacePlays", spec := "spacePlays", inPlace := ["sync/atomic.AddInt64", "internal/bytealg.MakeNoZero"], unfollowed := true, recurses := true, named := ["unicode/utf8.first", "unicode/utf8.acceptRanges"], plainKeys := false, apart := false, laid := [("unicode/utf8.acceptRanges", laid_unicode_utf8_acceptRanges), ("unicode/utf8.first", laid_unicode_utf8_first)], narrowed := true }
def SpacePlaysUptoSaid : Prop := spacePlaysUptoRow.holds Tryd.pinned (OpenSpec.upto spacePlaysSpec)

/-- 'grommetlaw07.PagerMems', WHERE WHAT IT READS IS OF BULK AT MOST 1048576: true; the input reads as it did. -/
def pagerMemsUptoRow : OpenClaim := { program := "ytiicgelmdmhajaadoor", sum := "f1f1466354a29a2d3af053ead5f7befc23beaafeaae444a6731efc82ddc6a934", func := "grommet/grommetlaw07.PagerMems", spec := "pagerMems", inPlace := ["sync/atomic.AddInt64"], unfollowed := true, recurses := true, named := ["unicode/utf8.first", "unicode/utf8.acceptRanges"], plainKeys := false, apart := false, laid := [("unicode/utf8.acceptRanges", laid_unicode_utf8_acceptRanges), ("unicode/utf8.first", laid_unicode_utf8_first)], narrowed := true }
def PagerMemsUptoSaid : Prop := pagerMemsUptoRow.holds Tryd.pinned (OpenSpec.upto pagerMemsSpec)

/-- 'grommetlaw07.PagerFrames', WHERE WHAT IT READS IS OF BULK AT MOST 1048576: true; the input reads as it did. -/
def pagerFramesUptoRow : OpenClaim := { program := "ytiicgelmdmhajaadoor", sum := "f1f1466354a29a2d3af053ead5f7befc23beaafeaae444a6731efc82ddc6a934", func := "grommet/grommetlaw07.PagerFrames", spec := "pagerFrames", inPlace := ["sync/atomic.AddInt64"], unfollowed := true, recurses := true, named := ["unicode/utf8.first", "unicode/utf8.acceptRanges"], plainKeys := false, apart := false, laid := [("unicode/utf8.acceptRanges", laid_unicode_utf8_acceptRanges), ("unicode/utf8.first", laid_unicode_utf8_first)], narrowed := true }
def PagerFramesUptoSaid : Prop := pagerFramesUptoRow.holds Tryd.pinned (OpenSpec.upto pagerFramesSpec)

end Rows
end Go.Proofs.YtiicgelmdmhajaaDoor
