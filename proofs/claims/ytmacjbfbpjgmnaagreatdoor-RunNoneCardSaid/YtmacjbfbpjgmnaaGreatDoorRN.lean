/-
  The law RunNone holds: at every input the call returns true, and what was there stays as it was.
  No condition but the form's own (the reach).
-/
import Derived.Test.YtmacjbfbpjgmnaaGreatDoorRNU
import Derived.Test.YtmacjbfbpjgmnaaGreatDoorRows
import Derived.WalkKit
import Derived.ProofKit
import Derived.OpenShut
import Derived.ShutString
import Derived.ChangeOld
import Derived.Below
import Derived.SizedLaws
import Derived.LaidMore
import Derived.Lay
import Derived.SevenTiedAt
import Derived.Stop.Joined
import Derived.Test.YtmacjbfbpjgmnaaGreatDoorTie
import Derived.Test.YtmacjbfbpjgmnaaGreatDoorCards
import Derived.Lib.LaidTab
set_option linter.all false
open Go.ChangeShapes Go.WideShapes Go.ChangeAt Go.RowKit Go.Hl
open Go.ChangeMaps (open_string shut_string)
set_option linter.unusedVariables false
set_option maxRecDepth 100000
namespace Go.Proofs.YtmacjbfbpjgmnaaGreatDoor
theorem PA{P:Program}(h:P.funcs.any Func.goes=false)(f:FuncId):P.goes f=false:=by
  have h2:∀g:Nat,(P.funcs[g]?).any Func.goes=false:=fun g=>by
    cases hg:P.funcs[g]? with
    |none=>rfl
    | some fn=>
      have hm:=Array.mem_of_getElem? hg;cases hb:fn.goes with
      |false=>simp[hb]
      |true=>rw[Array.any_eq_false'] at h;exact absurd hb (h fn hm)
  unfold Program.goes;rw[h,Bool.and_false,Bool.or_false];exact List.any_eq_false.2 fun g _=>by rw[h2 g];exact Bool.false_ne_true
theorem KN{P:Program}{c:OpenClaim}(hs:c.start= .entering)(h:P.funcs.any Func.goes=false):false=c.goesBy P:=by
  unfold OpenClaim.goesBy Program.goesAt Program.goesFrom;rw[hs];cases P.funcNamed c.func with
  |none=>rfl
  |some f=>show false=(P.goes f||false);rw[PA h];rfl
theorem Nu:Tryz.prog.funcs.any Func.goes=false:=by kernel_rfl
/-- The statement: the card. -/
theorem runNone_holds:Rows.RunNoneCardSaid:=
  Claim7.holds_tied_plain_at .later [] [.data, .data, .pinned] true (true,"e668196ee3fd8aeda14db6d4eec42a57c1f1546a508be94ff19ad7b31c2b1365") true runNoneLaw.over (fun _ h=>by cases h) (by kernel_rfl) (fun _ h=>by cases h) runNone_row_tie rfl ⟨rfl,rfl⟩ (by kernel_rfl) rfl
    (fun f fn hf hfn=>by
      obtain rfl:f=3:=Option.some.inj ((show Tryz.prog.funcNamed "grommet/grommetlaw22.RunNone"=some 3 by kernel_rfl).symm.trans hf)|>.symm;obtain rfl:fn=Tryz.f3:=(Option.some.inj (Tryz.func3.symm.trans hfn)).symm
      exact⟨by kernel_rfl,fun j t ht=>by
        rw[Tryz.params3] at ht;have hm:t∈[23,3,24]:=by simpa using Array.mem_of_getElem? ht
        have hall:([23,3,24].all fun u=> !Tryz.prog.wantsStandIn u)=true:=by kernel_rfl
        exact(show Tryz.prog.wantsStandIn t=false by simpa using List.all_eq_true.1 hall t hm)⟩)
    (KN rfl Nu)
#print axioms runNone_holds
end Go.Proofs.YtmacjbfbpjgmnaaGreatDoor
