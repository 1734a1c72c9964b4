/-
  No cell of these rows narrows 'for every input' (looked for: loops, veiled, ifaces, maps, wideKeys, modest, calm, conditions, laid).
  DERIVED. THE GIVEN ROWS OF THIS SEAT. 4 by the template 'for every input the law returns true; each argument reads behind the call as it read before'; 0 by the template 'total and deterministic' (their statements: YtbiahdejccipaaaTotals.lean).
  GIVEN WITH THE SEED: the statements are not yours to turn. If you find one false, say at which input.
  Laid BY PROGRAM, IN A SANDBOX (cutbox-rows.mjs): the forced cells as the released guide's own fill.sh prints them over the translation f6cb8cd7774d257f… (all of the seat's roots in one cut). By AI agents, Wed Nov 11 2026. No macro, syntax, notation, axiom, sorry.
-/
import Derived.Test.YtbiahdejccipaaaChecked
import GoSem.Claim
import GoSem.ClaimJoined
import GoSem.ClaimMapViews
import Derived.JoinedTies
import Derived.KernelRfl
namespace Go.Proofs.Ytbiahdejccipaaa
/- THE CELL 'sum', in the pinned program and in every row, IS THE sha256 OF THE DUMP (.gsa) THAT YtbiahdejccipaaaProg.lean LOADS. Nothing in Lean hashes anything: it is a label: what it is worth is what the hold of that sum in a sandbox is worth. -/
noncomputable def Try.pinned : Pinned := { name := "ytbiahdejccipaaa", sum := "f6cb8cd7774d257f90e5ef8c564635590dabf4d4fd9f81f8701fbd690c851370", checked := Try.checked }
namespace Rows
def none {H : Type} : Left H := { results := [], args := [] }

/-- 'grommetlaw13.ModuleFewer': WHATEVER THE INPUT: true; the input reads as it did. -/
def moduleFewerSpec : ChangeSpec := { name := "moduleFewer", fn := fun _ => fun
  | [d] => { results := [.lit (.bool true)], args := [d] }
  | _ => none }
def moduleFewerRow : OpenClaim := { program := "ytbiahdejccipaaa", sum := "f6cb8cd7774d257f90e5ef8c564635590dabf4d4fd9f81f8701fbd690c851370", func := "grommet/grommetlaw13.ModuleFewer", spec := "moduleFewer", unfollowed := true, recurses := true, apart := false }
def ModuleFewerSaid : Prop := moduleFewerRow.holds Try.pinned (OpenSpec.ofChange moduleFewerSpec)

/-- ITS FALSE NEIGHBOUR: 'it returns false'. Refute it at one input. -/
def moduleFewerWrong : ChangeSpec := { name := "moduleFewer", fn := fun _ => fun
  | [d] => { results := [.lit (.bool false)], args := [d] }
  | _ => none }
def ModuleFewerWrongFalsely : Prop := moduleFewerRow.holds Try.pinned (OpenSpec.ofChange moduleFewerWrong)

/-- 'grommetlaw13.ModuleFinds': WHATEVER THE INPUT: true; the input reads as it did. -/
def moduleFindsSpec : ChangeSpec := { name := "moduleFinds", fn := fun _ => fun
  | [d1, d2, d3] => { results := [.lit (.bool true)], args := [d1, d2, d3] }
  | _ => none }
def moduleFindsRow : OpenClaim := { program := "ytbiahdejccipaaa", sum := "f6cb8cd7774d257f90e5ef8c564635590dabf4d4fd9f81f8701fbd690c851370", func := "grommet/grommetlaw13.ModuleFinds", spec := "moduleFinds", unfollowed := true, recurses := true, apart := false }
def ModuleFindsSaid : Prop := moduleFindsRow.holds Try.pinned (OpenSpec.ofChange moduleFindsSpec)

/-- ITS FALSE NEIGHBOUR: 'it returns false'. Refute it at one input. -/
def moduleFindsWrong : ChangeSpec := { name := "moduleFinds", fn := fun _ => fun
  | [d1, d2, d3] => { results := [.lit (.bool false)], args := [d1, d2, d3] }
  | _ => none }
def ModuleFindsWrongFalsely : Prop := moduleFindsRow.holds Try.pinned (OpenSpec.ofChange moduleFindsWrong)

/-- 'grommetlaw13.ModuleSame': WHATEVER THE INPUT: true; the input reads as it did. -/
def moduleSameSpec : ChangeSpec := { name := "moduleSame", fn := fun _ => fun
  | [d1, d2] => { results := [.lit (.bool true)], args := [d1, d2] }
  | _ => none }
def moduleSameRow : OpenClaim := { program := "ytbiahdejccipaaa", sum := "f6cb8cd7774d257f90e5ef8c564635590dabf4d4fd9f81f8701fbd690c851370", func := "grommet/grommetlaw13.ModuleSame", spec := "moduleSame", unfollowed := true, recurses := true, apart := false }
def ModuleSameSaid : Prop := moduleSameRow.holds Try.pinned (OpenSpec.ofChange moduleSameSpec)

/-- ITS FALSE NEIGHBOUR: 'it returns false'. Refute it at one input. -/
def moduleSameWrong : ChangeSpec := { name := "moduleSame", fn := fun _ => fun
  | [d1, d2] => { results := [.lit (.bool false)], args := [d1, d2] }
  | _ => none }
def ModuleSameWrongFalsely : Prop := moduleSameRow.holds Try.pinned (OpenSpec.ofChange moduleSameWrong)

/-- 'grommetlaw13.ModuleNone': WHATEVER THE INPUT: true; the input reads as it did. -/
def moduleNoneSpec : ChangeSpec := { name := "moduleNone", fn := fun _ => fun
  | [d1, d2] => { results := [.lit (.bool true)], args := [d1, d2] }
  | _ => none }
def moduleNoneRow : OpenClaim := { program := "ytbiahdejccipaaa", sum := "f6cb8cd7774d257f90e5ef8c564635590dabf4d4fd9f81f8701fbd690c851370", func := "grommet/grommetlaw13.ModuleNone", spec := "moduleNone", unfollowed := true, recurses := true, apart := false }
def ModuleNoneSaid : Prop := moduleNoneRow.holds Try.pinned (OpenSpec.ofChange moduleNoneSpec)

/-- ITS FALSE NEIGHBOUR: 'it returns false'. Refute it at one input. -/
def moduleNoneWrong : ChangeSpec := { name := "moduleNone", fn := fun _ => fun
  | [d1, d2] => { results := [.lit (.bool false)], args := [d1, d2] }
  | _ => none }
def ModuleNoneWrongFalsely : Prop := moduleNoneRow.holds Try.pinned (OpenSpec.ofChange moduleNoneWrong)

/- THE SECOND FORM. 'bulk': how many values and letters a reading holds, each counted each time it is reached (what is shared counts as often as it is met; a slice's spare places count too). A statement '..UptoSaid' is the law's where the arguments, and the package variables that the reading takes, are together of bulk at most 1048576: NARROWER than '..Said'. Prove '..Said' where nothing that the law and all that it calls make is longer than what came in: it says more and counts as full. Else prove '..UptoSaid'. A law counts once. -/
mutual
def uptoBulk {H : Type} : DataW H → Nat
  | .lit (.string bytes) => bytes.length + 1
  | .lit _ => 1
  | .nil => 1
  | .ptr d => uptoBulk d + 1
  | .slice elems spare => uptoBulkAll elems + uptoBulkAll spare + 1
  | .agg parts => uptoBulkAll parts + 1
  | .iface _ d => uptoBulk d + 1
  | .map entries => uptoBulkEntries entries + 1
  | .held _ => 1
def uptoBulkAll {H : Type} : List (DataW H) → Nat
  | [] => 0
  | d :: r => uptoBulk d + uptoBulkAll r
def uptoBulkEntries {H : Type} : List (Lit × DataW H) → Nat
  | [] => 0
  | x :: r => uptoBulkEntry x + uptoBulkEntries r
def uptoBulkEntry {H : Type} : Lit × DataW H → Nat
  | (.string bytes, d) => bytes.length + uptoBulk d + 1
  | (_, d) => uptoBulk d + 1
 end
def uptoSmall : (H : Type) → List (DataW H) → Bool := fun _ ds => decide (uptoBulkAll ds ≤ 1048576)
def OpenSpec.upto (s : _root_.Go.ChangeSpec) : _root_.Go.OpenSpec := { _root_.Go.OpenSpec.ofChange s with cond := some uptoSmall }

/-- 'grommetlaw13.ModuleFewer', WHERE WHAT IT READS IS OF BULK AT MOST 1048576: true; the input reads as it did. -/
def moduleFewerUptoRow : OpenClaim := { program := "ytbiahdejccipaaa", sum := "f6cb8cd7774d257f90e5ef8c564635590dabf4d4fd9f81f8701fbd690c851370", func := "grommet/grommetlaw13.ModuleFewer", spec := "moduleFewer", unfollowed := true, recurses := true, apart := false, narrowed := true }
def ModuleFewerUptoSaid : Prop := moduleFewerUptoRow.holds Try.pinned (OpenSpec.upto moduleFewerSpec)

/-- 'grommetlaw13.ModuleFinds', WHERE WHAT IT READS IS OF BULK AT MOST 1048576: true; the input reads as it did. -/
def moduleFindsUptoRow : OpenClaim := { program := "ytbiahdejccipaaa", sum := "f6cb8cd7774d257f90e5ef8c564635590dabf4d4fd9f81f8701fbd690c851370", func := "grommet/grommetlaw13.ModuleFinds", spec := "moduleFinds", unfollowed := true, recurses := true, apart := false, narrowed := true }
def ModuleFindsUptoSaid : Prop := moduleFindsUptoRow.holds Try.pinned (OpenSpec.upto moduleFindsSpec)

/-- 'grommetlaw13.ModuleSame', WHERE WHAT IT READS IS OF BULK AT MOST 1048576: true; the input reads as it did. -/
def moduleSameUptoRow : OpenClaim := { program := "ytbiahdejccipaaa", sum := "f6cb8cd7774d257f90e5ef8c564635590dabf4d4fd9f81f8701fbd690c851370", func := "grommet/grommetlaw13.ModuleSame", spec := "moduleSame", unfollowed := true, recurses := true, apart := false, narrowed := true }
def ModuleSameUptoSaid : Prop := moduleSameUptoRow.holds Try.pinned (OpenSpec.upto moduleSameSpec)

/-- 'grommetlaw13.ModuleNone', WHERE WHAT IT READS IS OF BULK AT MOST 1048576: true; the input reads as it did. -/
def moduleNoneUptoRow : OpenClaim := { program := "ytbiahdejccipaaa", sum := "f6cb8cd7774d257f90e5ef8c564635590dabf4d4fd9f81f8701fbd690c851370", func := "grommet/grommetlaw13.ModuleNone", spec := "moduleNone", unfollowed := true, recurses := true, apart := false, narrowed := true }
def ModuleNoneUptoSaid : Prop := moduleNoneUptoRow.holds Try.pinned (OpenSpec.upto moduleNoneSpec)

end Rows
end Go.Proofs.Ytbiahdejccipaaa
