/-
  The law LintFinds holds: at every input the call returns true, and what was there stays as it was.
  No condition but the form's own (the reach).
-/
import Derived.Test.YtpahnbgfmhcndaaGreatDoorLFU
import Derived.Test.YtpahnbgfmhcndaaGreatDoorRows
import Derived.WalkKit
import Derived.ProofKit
import Derived.OpenShut
import Derived.ShutString
import Derived.ChangeOld
import Derived.Below
import Derived.SizedLaws
import Derived.LaidMore
import Derived.Lay
import Derived.SevenTiedAt
import Derived.Stop.Joined
import Derived.Test.YtpahnbgfmhcndaaGreatDoorTie
import Derived.Test.YtpahnbgfmhcndaaGreatDoorCards
set_option linter.all false
namespace Go.Proofs.YtpahnbgfmhcndaaGreatDoor.lintFindsLaw
open Go.ChangeShapes Go.WideShapes Go.ChangeAt Go.RowKit Go.Hl
open Go.ChangeMaps (open_string shut_string)
set_option linter.unusedVariables false
set_option maxRecDepth 100000
theorem kf0 : (Rows.lintFindsRow.wf (OpenSpec.ofChange Rows.lintFindsSpec)) = true := by kernel_rfl
theorem kf1 : (laidOutB Tryz.prog) = true := by kernel_rfl
theorem kf2 : (mapsRowed Tryz.prog) = true := by kernel_rfl
theorem kf3 : (Tryz.f3.params.all (Tryz.prog.readableRec ·)) = true := by kernel_rfl
theorem kf4 : (namedTie Tryz.prog Rows.lintFindsRow.named Rows.lintFindsSpec.vars) = true := by kernel_rfl
theorem kf5 : (Rows.lintFindsRow.stops == []) = true := by kernel_rfl
theorem kf6 : (Tryz.prog.stops == []) = true := by kernel_rfl
theorem kf7 : (Rows.lintFindsRow.knobs == []) = true := by kernel_rfl
theorem kf8 : (Tryz.prog.stopKnobs == []) = true := by kernel_rfl
theorem kf9 : (Rows.lintFindsRow.inPlace == Tryz.prog.inPlace 3) = true := by kernel_rfl
theorem kf10 : (Rows.lintFindsRow.unfollowed == Tryz.prog.unfollowed 3) = true := by kernel_rfl
theorem kf11 : (Rows.lintFindsRow.recurses == Tryz.prog.recurses 3) = true := by kernel_rfl
theorem kf12 : (Rows.lintFindsRow.named == Tryz.prog.varsNamed 3) = true := by kernel_rfl
theorem kf13 : (Rows.lintFindsRow.maps == (Tryz.f3.params.toList ++ Rows.lintFindsSpec.plain.varTypes Tryz.prog).any (Tryz.prog.mapsRec ·)) = true := by kernel_rfl
theorem kf14 : (Rows.lintFindsRow.ifaces == (Tryz.f3.params.toList ++ Rows.lintFindsSpec.plain.varTypes Tryz.prog).any (Tryz.prog.ifacesRec ·)) = true := by kernel_rfl
theorem kf15 : (Rows.lintFindsRow.mapsOut == Tryz.prog.mapsAmong Tryz.f3.resultTypes.toList) = true := by kernel_rfl
theorem kf16 : (Rows.lintFindsRow.loops == (Tryz.f3.params.toList ++ Rows.lintFindsSpec.plain.varTypes Tryz.prog).any (Tryz.prog.loopsFrom ·)) = true := by kernel_rfl
theorem kf17 : (Rows.lintFindsRow.wideKeys == (Tryz.f3.params.toList ++ Rows.lintFindsSpec.plain.varTypes Tryz.prog ++ Tryz.f3.resultTypes.toList).any (Tryz.prog.wideKeysFrom ·)) = true := by kernel_rfl
theorem kf18 : (Rows.lintFindsSpec.vars.all (Tryz.prog.varReadable ·)) = true := by kernel_rfl
theorem kf19 : (Tryz.f3.resultTypes.all (fun t => Tryz.prog.readableRec t && decide (t < Tryz.prog.types.size))) = true := by kernel_rfl
theorem kf20 : (Rows.lintFindsRow.ifacesOut == Tryz.f3.resultTypes.toList.any (Tryz.prog.ifacesRec ·)) = true := by kernel_rfl
theorem kf21 : (Rows.lintFindsRow.loopsOut == Tryz.f3.resultTypes.toList.any (Tryz.prog.loopsFrom ·)) = true := by kernel_rfl
theorem kf22 : (Rows.lintFindsRow.plainKeys == Tryz.prog.plainKeys) = true := by kernel_rfl
theorem kf23 : (Rows.lintFindsRow.shortTexts.isNone) = true := by kernel_rfl
theorem kf24 : (Tryz.prog.stopsHeard) = true := by kernel_rfl
theorem kf25 : (Tryz.prog.mayEnter) = true := by kernel_rfl
theorem kf26 : (Rows.lintFindsRow.lifted == Tryz.prog.liftsFinal) = true := by kernel_rfl
theorem kf27 : (Tryz.prog.make == some Rows.lintFindsRow.make) = true := by kernel_rfl
theorem kf28 : (Rows.lintFindsRow.kinds == (if Rows.lintFindsRow.domain.isEmpty then [] else Tryz.f3.params.toList.map fun t => match Tryz.prog.underlying t with | some (.int k) => some k | _ => none)) = true := by kernel_rfl
theorem kf29 : (Rows.lintFindsRow.pinned == Rows.lintFindsRow.pinnedBy) = true := by kernel_rfl
theorem kf30 : (Rows.lintFindsRow.veiled == (Tryz.f3.params.toList ++ Rows.lintFindsSpec.plain.varTypes Tryz.prog ++ Tryz.f3.resultTypes.toList).any (Tryz.prog.veiledRec ·)) = true := by kernel_rfl
theorem kf31 : (Rows.lintFindsRow.veiledFits Tryz.prog Tryz.f3.params.toList (Tryz.f3.params.toList ++ Rows.lintFindsSpec.plain.varTypes Tryz.prog)) = true := by kernel_rfl
theorem and2 : ∀ {a b : Bool}, a = true → b = true → (a && b) = true
  | _, _, rfl, rfl => rfl
theorem closed : joinedFacts Tryz.prog 3 Tryz.f3 Rows.lintFindsSpec Rows.lintFindsRow = true := (and2 (and2 (and2 (and2 (and2 (and2 (and2 (and2 (and2 (and2 (and2 (and2 (and2 (and2 (and2 (and2 (and2 (and2 (and2 (and2 (and2 (and2 (and2 (and2 (and2 (and2 (and2 (and2 (and2 (and2 (and2 kf0 kf1) kf2) kf3) kf4) kf5) kf6) kf7) kf8) kf9) kf10) kf11) kf12) kf13) kf14) kf15) kf16) kf17) kf18) kf19) kf20) kf21) kf22) kf23) kf24) kf25) kf26) kf27) kf28) kf29) kf30) kf31)

theorem over : Rows.lintFindsRow.holds Tryz.pinned (OpenSpec.ofChange Rows.lintFindsSpec) :=
  OpenClaim.holds_of_wide 3 Tryz.f3 rfl rfl rfl rfl rfl rfl rfl ⟨rfl, rfl, rfl, rfl, rfl⟩ rfl rfl rfl rfl rfl (by kernel_rfl) Tryz.func3 closed
    (of_decide_eq_true (by kernel_rfl)) (by unfold Func.isWrapper; first | (rw [if_pos (by decide +kernel)]; kernel_rfl) | (rw [if_neg (by decide +kernel)]; exact ⟨rfl, rfl⟩))
    (fun os started H enc _ => lifted os started H enc)

end Go.Proofs.YtpahnbgfmhcndaaGreatDoor.lintFindsLaw
namespace Go.Proofs.YtpahnbgfmhcndaaGreatDoor
/-- The statement: the card. -/
theorem lintFinds_holds : Rows.LintFindsCardSaid :=
  Claim7.holds_tied_plain_at .later [] [.data, .data, .data] true (true, "c83b75dd236441772812fdda1b127fd763253e9d3ac742947f8c686ecd51050f") true lintFindsLaw.over (fun _ h => by cases h) (by kernel_rfl) (fun _ h => by cases h) lintFinds_row_tie rfl ⟨rfl, rfl⟩ (by kernel_rfl) rfl
    (fun f fn hf hfn => by
      obtain rfl : f = 3 := Option.some.inj ((show Tryz.prog.funcNamed "grommet/grommetlaw29.LintFinds" = some 3 by kernel_rfl).symm.trans hf) |>.symm
      obtain rfl : fn = Tryz.f3 := (Option.some.inj (Tryz.func3.symm.trans hfn)).symm
      exact ⟨by kernel_rfl, fun j t ht => by
        rw [Tryz.params3] at ht
        have hm : t ∈ [31] := by simpa using Array.mem_of_getElem? ht
        have hall : ([31].all fun u => !Tryz.prog.wantsStandIn u) = true := by kernel_rfl
        exact (show Tryz.prog.wantsStandIn t = false by simpa using List.all_eq_true.1 hall t hm)⟩)
    (by kernel_rfl)
#print axioms lintFinds_holds
end Go.Proofs.YtpahnbgfmhcndaaGreatDoor
