/-
  The law StateBegins holds: at every input the call returns true, and what was there stays as it was.
  No condition but the form's own (the reach).
-/
import Derived.Test.YtpfobikpggmleaaGreatDoorSBZ
import Derived.Test.YtpfobikpggmleaaGreatDoorRows
import Derived.WalkKit
import Derived.ProofKit
import Derived.OpenShut
import Derived.ShutString
import Derived.ChangeOld
import Derived.Below
import Derived.SizedLaws
import Derived.LaidMore
import Derived.Lay
import Derived.SevenTiedAt
import Derived.Stop.Joined
import Derived.Test.YtpfobikpggmleaaGreatDoorTie
import Derived.Test.YtpfobikpggmleaaGreatDoorCards
set_option linter.all false
open Go.ChangeShapes Go.WideShapes Go.ChangeAt Go.RowKit Go.Hl
open Go.ChangeMaps (open_string shut_string)
set_option linter.unusedVariables false
set_option maxRecDepth 100000
namespace Go.Proofs.YtpfobikpggmleaaGreatDoor
/-- The statement: the card. -/
theorem stateBegins_holds:Rows.StateBeginsCardSaid:=
  Claim7.holds_tied_plain_at .later [] [.data, .pinned] true (true,"822a16f0e905357e3ca86752b0e15d406af0f440bd2ab35f4d74fdbd14efd643") true stateBeginsLaw.over (fun _ h=>by cases h) (by kernel_rfl) (fun _ h=>by cases h) stateBegins_row_tie rfl ⟨rfl,rfl⟩ (by kernel_rfl) rfl
    (fun f fn hf hfn=>by
      obtain rfl:f=6:=Option.some.inj ((show Tryz.prog.funcNamed "grommet/grommetlaw21.StateBegins"=some 6 by kernel_rfl).symm.trans hf)|>.symm;obtain rfl:fn=Tryz.f6:=(Option.some.inj (Tryz.func6.symm.trans hfn)).symm
      exact⟨by kernel_rfl,fun j t ht=>by
        rw[Tryz.params6] at ht;have hm:t∈[31,3,3,58]:=by simpa using Array.mem_of_getElem? ht
        have hall:([31,3,3,58].all fun u=> !Tryz.prog.wantsStandIn u)=true:=by kernel_rfl
        exact(show Tryz.prog.wantsStandIn t=false by simpa using List.all_eq_true.1 hall t hm)⟩)
    (by kernel_rfl)
#print axioms stateBegins_holds
end Go.Proofs.YtpfobikpggmleaaGreatDoor
