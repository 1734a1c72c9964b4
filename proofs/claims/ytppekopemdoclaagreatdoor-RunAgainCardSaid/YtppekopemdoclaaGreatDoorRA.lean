/-
  The law RunAgain holds: at every input the call returns true, and what was there stays as it was.
  No condition but the form's own (the reach).
-/
import Derived.Test.YtppekopemdoclaaGreatDoorRAT
import Derived.Test.YtppekopemdoclaaGreatDoorRows
import Derived.WalkKit
import Derived.ProofKit
import Derived.OpenShut
import Derived.ShutString
import Derived.ChangeOld
import Derived.Below
import Derived.SizedLaws
import Derived.LaidMore
import Derived.Lay
import Derived.SevenTiedAt
import Derived.Stop.Joined
import Derived.Test.YtppekopemdoclaaGreatDoorTie
import Derived.Test.YtppekopemdoclaaGreatDoorCards
import Derived.Lib.LaidTab
set_option linter.all false
open Go.ChangeShapes Go.WideShapes Go.ChangeAt Go.RowKit Go.Hl
open Go.ChangeMaps (open_string shut_string)
set_option linter.unusedVariables false
set_option maxRecDepth 100000
namespace Go.Proofs.YtppekopemdoclaaGreatDoor
theorem TQ:Tryz.prog.funcs.any Func.goes=false:=by kernel_rfl
/-- The statement: the card. -/
theorem runAgain_holds:Rows.RunAgainCardSaid:=
  Claim7.holds_tied_plain_at .later [] [.data, .data, .pinned] true (true,"10c836ec67ec94378fa27341be4f5d9c35114a9936e90c8c9d3ccecd86a46d4a") true runAgainLaw.over (fun _ h=>by cases h) (by kernel_rfl) (fun _ h=>by cases h) runAgain_row_tie rfl ⟨rfl,rfl⟩ (by kernel_rfl) rfl
    (fun f fn hf hfn=>by
      obtain rfl:f=3:=Option.some.inj ((show Tryz.prog.funcNamed "grommet/grommetlaw22.RunAgain"=some 3 by kernel_rfl).symm.trans hf)|>.symm;obtain rfl:fn=Tryz.f3:=(Option.some.inj (Tryz.func3.symm.trans hfn)).symm
      exact⟨by kernel_rfl,fun j t ht=>by
        rw[Tryz.params3] at ht;have hm:t∈[31,34]:=by simpa using Array.mem_of_getElem? ht
        have hall:([31,34].all fun u=> !Tryz.prog.wantsStandIn u)=true:=by kernel_rfl
        exact(show Tryz.prog.wantsStandIn t=false by simpa using List.all_eq_true.1 hall t hm)⟩)
    (NR rfl TQ)
#print axioms runAgain_holds
end Go.Proofs.YtppekopemdoclaaGreatDoor
