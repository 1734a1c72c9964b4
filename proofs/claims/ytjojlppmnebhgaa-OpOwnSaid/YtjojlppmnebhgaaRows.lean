/-
  No cell of these rows narrows 'for every input' (looked for: loops, veiled, ifaces, maps, wideKeys, modest, calm, conditions, laid).
  DERIVED. THE GIVEN ROWS OF THIS SEAT. 5 by the template 'for every input the law returns true; each argument reads behind the call as it read before'; 0 by the template 'total and deterministic' (their statements: YtjojlppmnebhgaaTotals.lean).
  GIVEN WITH THE SEED: the statements are not yours to turn. If you find one false, say at which input.
  Laid BY PROGRAM, IN A SANDBOX (cutbox-rows.mjs): the forced cells as the released guide's own fill.sh prints them over the translation 22bc20813628b39c… (all of the seat's roots in one cut). By AI agents, Wed Nov 11 2026. No macro, syntax, notation, axiom, sorry.
-/
import Derived.Test.YtjojlppmnebhgaaChecked
import GoSem.Claim
import GoSem.ClaimJoined
import GoSem.ClaimMapViews
import Derived.JoinedTies
import Derived.KernelRfl
namespace Go.Proofs.Ytjojlppmnebhgaa
/- THE CELL 'sum', in the pinned program and in every row, IS THE sha256 OF THE DUMP (.gsa) THAT YtjojlppmnebhgaaProg.lean LOADS. Nothing in Lean hashes anything: it is a label: what it is worth is what the hold of that sum in a sandbox is worth. -/
noncomputable def Try.pinned : Pinned := { name := "ytjojlppmnebhgaa", sum := "22bc20813628b39c83f118064b74dafe38dcbdd5343be022d6fd49fedafe8e3d", checked := Try.checked }
namespace Rows
def none {H : Type} : Left H := { results := [], args := [] }

/-- 'grommetlaw10.OpNumeric': WHATEVER THE INPUT: true; the input reads as it did. -/
def opNumericSpec : ChangeSpec := { name := "opNumeric", fn := fun _ => fun
  | [d] => { results := [.lit (.bool true)], args := [d] }
  | _ => none }
def opNumericRow : OpenClaim := { program := "ytjojlppmnebhgaa", sum := "22bc20813628b39c83f118064b74dafe38dcbdd5343be022d6fd49fedafe8e3d", func := "grommet/grommetlaw10.OpNumeric", spec := "opNumeric", unfollowed := true, recurses := true, apart := false }
def OpNumericSaid : Prop := opNumericRow.holds Try.pinned (OpenSpec.ofChange opNumericSpec)

/-- ITS FALSE NEIGHBOUR: 'it returns false'. Refute it at one input. -/
def opNumericWrong : ChangeSpec := { name := "opNumeric", fn := fun _ => fun
  | [d] => { results := [.lit (.bool false)], args := [d] }
  | _ => none }
def OpNumericWrongFalsely : Prop := opNumericRow.holds Try.pinned (OpenSpec.ofChange opNumericWrong)

/-- 'grommetlaw10.OpOwn': WHATEVER THE INPUT: true; the input reads as it did. -/
def opOwnSpec : ChangeSpec := { name := "opOwn", fn := fun _ => fun
  | [d] => { results := [.lit (.bool true)], args := [d] }
  | _ => none }
def opOwnRow : OpenClaim := { program := "ytjojlppmnebhgaa", sum := "22bc20813628b39c83f118064b74dafe38dcbdd5343be022d6fd49fedafe8e3d", func := "grommet/grommetlaw10.OpOwn", spec := "opOwn", unfollowed := true, recurses := true, apart := false }
def OpOwnSaid : Prop := opOwnRow.holds Try.pinned (OpenSpec.ofChange opOwnSpec)

/-- ITS FALSE NEIGHBOUR: 'it returns false'. Refute it at one input. -/
def opOwnWrong : ChangeSpec := { name := "opOwn", fn := fun _ => fun
  | [d] => { results := [.lit (.bool false)], args := [d] }
  | _ => none }
def OpOwnWrongFalsely : Prop := opOwnRow.holds Try.pinned (OpenSpec.ofChange opOwnWrong)

/-- 'grommetlaw10.OpNames': WHATEVER THE INPUT: true; the input reads as it did. -/
def opNamesSpec : ChangeSpec := { name := "opNames", fn := fun _ => fun
  | [d1, d2] => { results := [.lit (.bool true)], args := [d1, d2] }
  | _ => none }
def opNamesRow : OpenClaim := { program := "ytjojlppmnebhgaa", sum := "22bc20813628b39c83f118064b74dafe38dcbdd5343be022d6fd49fedafe8e3d", func := "grommet/grommetlaw10.OpNames", spec := "opNames", unfollowed := true, recurses := true, apart := false }
def OpNamesSaid : Prop := opNamesRow.holds Try.pinned (OpenSpec.ofChange opNamesSpec)

/-- ITS FALSE NEIGHBOUR: 'it returns false'. Refute it at one input. -/
def opNamesWrong : ChangeSpec := { name := "opNames", fn := fun _ => fun
  | [d1, d2] => { results := [.lit (.bool false)], args := [d1, d2] }
  | _ => none }
def OpNamesWrongFalsely : Prop := opNamesRow.holds Try.pinned (OpenSpec.ofChange opNamesWrong)

/-- 'grommetlaw10.OpApart': WHATEVER THE INPUT: true; the input reads as it did. -/
def opApartSpec : ChangeSpec := { name := "opApart", fn := fun _ => fun
  | [d1, d2] => { results := [.lit (.bool true)], args := [d1, d2] }
  | _ => none }
def opApartRow : OpenClaim := { program := "ytjojlppmnebhgaa", sum := "22bc20813628b39c83f118064b74dafe38dcbdd5343be022d6fd49fedafe8e3d", func := "grommet/grommetlaw10.OpApart", spec := "opApart", unfollowed := true, recurses := true, apart := false }
def OpApartSaid : Prop := opApartRow.holds Try.pinned (OpenSpec.ofChange opApartSpec)

/-- ITS FALSE NEIGHBOUR: 'it returns false'. Refute it at one input. -/
def opApartWrong : ChangeSpec := { name := "opApart", fn := fun _ => fun
  | [d1, d2] => { results := [.lit (.bool false)], args := [d1, d2] }
  | _ => none }
def OpApartWrongFalsely : Prop := opApartRow.holds Try.pinned (OpenSpec.ofChange opApartWrong)

/-- 'grommetlaw10.OpFinds': WHATEVER THE INPUT: true; the input reads as it did. -/
def opFindsSpec : ChangeSpec := { name := "opFinds", fn := fun _ => fun
  | [d] => { results := [.lit (.bool true)], args := [d] }
  | _ => none }
def opFindsRow : OpenClaim := { program := "ytjojlppmnebhgaa", sum := "22bc20813628b39c83f118064b74dafe38dcbdd5343be022d6fd49fedafe8e3d", func := "grommet/grommetlaw10.OpFinds", spec := "opFinds", inPlace := ["internal/bytealg.IndexByteString", "internal/bytealg.IndexString"], unfollowed := true, recurses := true, named := ["internal/bytealg.MaxLen"], apart := false }
def OpFindsSaid : Prop := opFindsRow.holds Try.pinned (OpenSpec.ofChange opFindsSpec)

/-- ITS FALSE NEIGHBOUR: 'it returns false'. Refute it at one input. -/
def opFindsWrong : ChangeSpec := { name := "opFinds", fn := fun _ => fun
  | [d] => { results := [.lit (.bool false)], args := [d] }
  | _ => none }
def OpFindsWrongFalsely : Prop := opFindsRow.holds Try.pinned (OpenSpec.ofChange opFindsWrong)

/- THE SECOND FORM. 'bulk': how many values and letters a reading holds, each counted each time it is reached (what is shared counts as often as it is met; a slice's spare places count too). A statement '..UptoSaid' is the law's where the arguments, and the package variables that the reading takes, are together of bulk at most 1048576: NARROWER than '..Said'. Prove '..Said' where nothing that the law and all that it calls make is longer than what came in: it says more and counts as full. Else prove '..UptoSaid'. A law counts once. -/
mutual
def uptoBulk {H : Type} : DataW H → Nat
  | .lit (.string bytes) => bytes.length + 1
  | .lit _ => 1
  | .nil => 1
  | .ptr d => uptoBulk d + 1
  | .slice elems spare => uptoBulkAll elems + uptoBulkAll spare + 1
  | .agg parts => uptoBulkAll parts + 1
  | .iface _ d => uptoBulk d + 1
  | .map entries => uptoBulkEntries entries + 1
  | .held _ => 1
def uptoBulkAll {H : Type} : List (DataW H) → Nat
  | [] => 0
  | d :: r => uptoBulk d + uptoBulkAll r
def uptoBulkEntries {H : Type} : List (Lit × DataW H) → Nat
  | [] => 0
  | x :: r => uptoBulkEntry x + uptoBulkEntries r
def uptoBulkEntry {H : Type} : Lit × DataW H → Nat
  | (.string bytes, d) => bytes.length + uptoBulk d + 1
  | (_, d) => uptoBulk d + 1
 end
def uptoSmall : (H : Type) → List (DataW H) → Bool := fun _ ds => decide (uptoBulkAll ds ≤ 1048576)
def OpenSpec.upto (s : _root_.Go.ChangeSpec) : _root_.Go.OpenSpec := { _root_.Go.OpenSpec.ofChange s with cond := some uptoSmall }

/-- 'grommetlaw10.OpNumeric', WHERE WHAT IT READS IS OF BULK AT MOST 1048576: true; the input reads as it did. -/
def opNumericUptoRow : OpenClaim := { program := "ytjojlppmnebhgaa", sum := "22bc20813628b39c83f118064b74dafe38dcbdd5343be022d6fd49fedafe8e3d", func := "grommet/grommetlaw10.OpNumeric", spec := "opNumeric", unfollowed := true, recurses := true, apart := false, narrowed := true }
def OpNumericUptoSaid : Prop := opNumericUptoRow.holds Try.pinned (OpenSpec.upto opNumericSpec)

/-- 'grommetlaw10.OpOwn', WHERE WHAT IT READS IS OF BULK AT MOST 1048576: true; the input reads as it did. -/
def opOwnUptoRow : OpenClaim := { program := "ytjojlppmnebhgaa", sum := "22bc20813628b39c83f118064b74dafe38dcbdd5343be022d6fd49fedafe8e3d", func := "grommet/grommetlaw10.OpOwn", spec := "opOwn", unfollowed := true, recurses := true, apart := false, narrowed := true }
def OpOwnUptoSaid : Prop := opOwnUptoRow.holds Try.pinned (OpenSpec.upto opOwnSpec)

/-- 'grommetlaw10.OpNames', WHERE WHAT IT READS IS OF BULK AT MOST 1048576: true; the input reads as it did. -/
def opNamesUptoRow : OpenClaim := { program := "ytjojlppmnebhgaa", sum := "22bc20813628b39c83f118064b74dafe38dcbdd5343be022d6fd49fedafe8e3d", func := "grommet/grommetlaw10.OpNames", spec := "opNames", unfollowed := true, recurses := true, apart := false, narrowed := true }
def OpNamesUptoSaid : Prop := opNamesUptoRow.holds Try.pinned (OpenSpec.upto opNamesSpec)

/-- 'grommetlaw10.OpApart', WHERE WHAT IT READS IS OF BULK AT MOST 1048576: true; the input reads as it did. -/
def opApartUptoRow : OpenClaim := { program := "ytjojlppmnebhgaa", sum := "22bc20813628b39c83f118064b74dafe38dcbdd5343be022d6fd49fedafe8e3d", func := "grommet/grommetlaw10.OpApart", spec := "opApart", unfollowed := true, recurses := true, apart := false, narrowed := true }
def OpApartUptoSaid : Prop := opApartUptoRow.holds Try.pinned (OpenSpec.upto opApartSpec)

/-- 'grommetlaw10.OpFinds', WHERE WHAT IT READS IS OF BULK AT MOST 1048576: true; the input reads as it did. -/
def opFindsUptoRow : OpenClaim := { program := "ytjojlppmnebhgaa", sum := "22bc20813628b39c83f118064b74dafe38dcbdd5343be022d6fd49fedafe8e3d", func := "grommet/grommetlaw10.OpFinds", spec := "opFinds", inPlace := ["internal/bytealg.IndexByteString", "internal/bytealg.IndexString"], unfollowed := true, recurses := true, named := ["internal/bytealg.MaxLen"], apart := false, narrowed := true }
def OpFindsUptoSaid : Prop := opFindsUptoRow.holds Try.pinned (OpenSpec.upto opFindsSpec)

end Rows
end Go.Proofs.Ytjojlppmnebhgaa
