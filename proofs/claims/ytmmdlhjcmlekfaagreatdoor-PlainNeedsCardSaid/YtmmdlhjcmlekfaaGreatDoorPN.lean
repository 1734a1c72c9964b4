/-
  The law PlainNeeds holds: at every input the call returns true, and what was there stays as it was.
  No condition but the form's own (the reach).
-/
import Derived.Test.YtmmdlhjcmlekfaaGreatDoorPNQ
import Derived.Test.YtmmdlhjcmlekfaaGreatDoorRows
import Derived.WalkKit
import Derived.ProofKit
import Derived.OpenShut
import Derived.ShutString
import Derived.ChangeOld
import Derived.Below
import Derived.SizedLaws
import Derived.LaidMore
import Derived.Lay
import Derived.SevenTiedAt
import Derived.Stop.Joined
import Derived.Test.YtmmdlhjcmlekfaaGreatDoorTie
import Derived.Test.YtmmdlhjcmlekfaaGreatDoorCards
set_option linter.all false
namespace Go.Proofs.YtmmdlhjcmlekfaaGreatDoor.plainNeedsLaw
open Go.ChangeShapes Go.WideShapes Go.ChangeAt Go.RowKit Go.Hl
open Go.ChangeMaps (open_string shut_string)
set_option linter.unusedVariables false
set_option maxRecDepth 100000
theorem over : Rows.plainNeedsRow.holds Tryz.pinned (OpenSpec.ofChange Rows.plainNeedsSpec) :=
  OpenClaim.holds_of_wide 4 Tryz.f4 rfl rfl rfl rfl rfl rfl rfl ⟨rfl, rfl, rfl, rfl, rfl⟩ rfl rfl rfl rfl rfl (by kernel_rfl) Tryz.func4 (by kernel_rfl)
    (of_decide_eq_true (by kernel_rfl)) (by unfold Func.isWrapper; first | (rw [if_pos (by decide +kernel)]; kernel_rfl) | (rw [if_neg (by decide +kernel)]; exact ⟨rfl, rfl⟩))
    (fun os started H enc _ => lifted os started H enc)

end Go.Proofs.YtmmdlhjcmlekfaaGreatDoor.plainNeedsLaw
namespace Go.Proofs.YtmmdlhjcmlekfaaGreatDoor
/-- The statement: the card. -/
theorem plainNeeds_holds : Rows.PlainNeedsCardSaid :=
  Claim7.holds_tied_plain_at .later [] [.data] true (true, "e9f94aacb94c46c49878eb96577d627878182e50e90506b242adc6844b562466") true plainNeedsLaw.over (fun _ h => by cases h) (by kernel_rfl) (fun _ h => by cases h) plainNeeds_row_tie rfl ⟨rfl, rfl⟩ (by kernel_rfl) rfl
    (fun f fn hf hfn => by
      obtain rfl : f = 4 := Option.some.inj ((show Tryz.prog.funcNamed "grommet/grommetlaw23.PlainNeeds" = some 4 by kernel_rfl).symm.trans hf) |>.symm
      obtain rfl : fn = Tryz.f4 := (Option.some.inj (Tryz.func4.symm.trans hfn)).symm
      exact ⟨by kernel_rfl, fun j t ht => by
        rw [Tryz.params4] at ht
        have hm : t ∈ [31, 3] := by simpa using Array.mem_of_getElem? ht
        have hall : ([31, 3].all fun u => !Tryz.prog.wantsStandIn u) = true := by kernel_rfl
        exact (show Tryz.prog.wantsStandIn t = false by simpa using List.all_eq_true.1 hall t hm)⟩)
    (by kernel_rfl)
#print axioms plainNeeds_holds
end Go.Proofs.YtmmdlhjcmlekfaaGreatDoor
