/-
  The law BudgetModules holds: at every input the call returns true, and what was there stays as it was.
  No condition but the form's own (the reach).
-/
import Derived.Test.YtpahnbgfmhcndaaGreatDoorBMV
import Derived.Test.YtpahnbgfmhcndaaGreatDoorRows
import Derived.WalkKit
import Derived.ProofKit
import Derived.OpenShut
import Derived.ShutString
import Derived.ChangeOld
import Derived.Below
import Derived.SizedLaws
import Derived.LaidMore
import Derived.Lay
import Derived.SevenTiedAt
import Derived.Stop.Joined
import Derived.Test.YtpahnbgfmhcndaaGreatDoorTie
import Derived.Test.YtpahnbgfmhcndaaGreatDoorCards
set_option linter.all false
namespace Go.Proofs.YtpahnbgfmhcndaaGreatDoor.budgetModulesLaw
open Go.ChangeShapes Go.WideShapes Go.ChangeAt Go.RowKit Go.Hl
open Go.ChangeMaps (open_string shut_string)
set_option linter.unusedVariables false
set_option maxRecDepth 100000
theorem kf0 : (Rows.budgetModulesRow.wf (OpenSpec.ofChange Rows.budgetModulesSpec)) = true := by kernel_rfl
theorem kf1 : (laidOutB Tryz.prog) = true := by kernel_rfl
theorem kf2 : (mapsRowed Tryz.prog) = true := by kernel_rfl
theorem kf3 : (Tryz.f4.params.all (Tryz.prog.readableRec ·)) = true := by kernel_rfl
theorem kf4 : (namedTie Tryz.prog Rows.budgetModulesRow.named Rows.budgetModulesSpec.vars) = true := by kernel_rfl
theorem kf5 : (Rows.budgetModulesRow.stops == []) = true := by kernel_rfl
theorem kf6 : (Tryz.prog.stops == []) = true := by kernel_rfl
theorem kf7 : (Rows.budgetModulesRow.knobs == []) = true := by kernel_rfl
theorem kf8 : (Tryz.prog.stopKnobs == []) = true := by kernel_rfl
theorem kf9 : (Rows.budgetModulesRow.inPlace == Tryz.prog.inPlace 4) = true := by kernel_rfl
theorem kf10 : (Rows.budgetModulesRow.unfollowed == Tryz.prog.unfollowed 4) = true := by kernel_rfl
theorem kf11 : (Rows.budgetModulesRow.recurses == Tryz.prog.recurses 4) = true := by kernel_rfl
theorem kf12 : (Rows.budgetModulesRow.named == Tryz.prog.varsNamed 4) = true := by kernel_rfl
theorem kf13 : (Rows.budgetModulesRow.maps == (Tryz.f4.params.toList ++ Rows.budgetModulesSpec.plain.varTypes Tryz.prog).any (Tryz.prog.mapsRec ·)) = true := by kernel_rfl
theorem kf14 : (Rows.budgetModulesRow.ifaces == (Tryz.f4.params.toList ++ Rows.budgetModulesSpec.plain.varTypes Tryz.prog).any (Tryz.prog.ifacesRec ·)) = true := by kernel_rfl
theorem kf15 : (Rows.budgetModulesRow.mapsOut == Tryz.prog.mapsAmong Tryz.f4.resultTypes.toList) = true := by kernel_rfl
theorem kf16 : (Rows.budgetModulesRow.loops == (Tryz.f4.params.toList ++ Rows.budgetModulesSpec.plain.varTypes Tryz.prog).any (Tryz.prog.loopsFrom ·)) = true := by kernel_rfl
theorem kf17 : (Rows.budgetModulesRow.wideKeys == (Tryz.f4.params.toList ++ Rows.budgetModulesSpec.plain.varTypes Tryz.prog ++ Tryz.f4.resultTypes.toList).any (Tryz.prog.wideKeysFrom ·)) = true := by kernel_rfl
theorem kf18 : (Rows.budgetModulesSpec.vars.all (Tryz.prog.varReadable ·)) = true := by kernel_rfl
theorem kf19 : (Tryz.f4.resultTypes.all (fun t => Tryz.prog.readableRec t && decide (t < Tryz.prog.types.size))) = true := by kernel_rfl
theorem kf20 : (Rows.budgetModulesRow.ifacesOut == Tryz.f4.resultTypes.toList.any (Tryz.prog.ifacesRec ·)) = true := by kernel_rfl
theorem kf21 : (Rows.budgetModulesRow.loopsOut == Tryz.f4.resultTypes.toList.any (Tryz.prog.loopsFrom ·)) = true := by kernel_rfl
theorem kf22 : (Rows.budgetModulesRow.plainKeys == Tryz.prog.plainKeys) = true := by kernel_rfl
theorem kf23 : (Rows.budgetModulesRow.shortTexts.isNone) = true := by kernel_rfl
theorem kf24 : (Tryz.prog.stopsHeard) = true := by kernel_rfl
theorem kf25 : (Tryz.prog.mayEnter) = true := by kernel_rfl
theorem kf26 : (Rows.budgetModulesRow.lifted == Tryz.prog.liftsFinal) = true := by kernel_rfl
theorem kf27 : (Tryz.prog.make == some Rows.budgetModulesRow.make) = true := by kernel_rfl
theorem kf28 : (Rows.budgetModulesRow.kinds == (if Rows.budgetModulesRow.domain.isEmpty then [] else Tryz.f4.params.toList.map fun t => match Tryz.prog.underlying t with | some (.int k) => some k | _ => none)) = true := by kernel_rfl
theorem kf29 : (Rows.budgetModulesRow.pinned == Rows.budgetModulesRow.pinnedBy) = true := by kernel_rfl
theorem kf30 : (Rows.budgetModulesRow.veiled == (Tryz.f4.params.toList ++ Rows.budgetModulesSpec.plain.varTypes Tryz.prog ++ Tryz.f4.resultTypes.toList).any (Tryz.prog.veiledRec ·)) = true := by kernel_rfl
theorem kf31 : (Rows.budgetModulesRow.veiledFits Tryz.prog Tryz.f4.params.toList (Tryz.f4.params.toList ++ Rows.budgetModulesSpec.plain.varTypes Tryz.prog)) = true := by kernel_rfl
theorem and2 : ∀ {a b : Bool}, a = true → b = true → (a && b) = true
  | _, _, rfl, rfl => rfl
theorem closed : joinedFacts Tryz.prog 4 Tryz.f4 Rows.budgetModulesSpec Rows.budgetModulesRow = true := (and2 (and2 (and2 (and2 (and2 (and2 (and2 (and2 (and2 (and2 (and2 (and2 (and2 (and2 (and2 (and2 (and2 (and2 (and2 (and2 (and2 (and2 (and2 (and2 (and2 (and2 (and2 (and2 (and2 (and2 (and2 kf0 kf1) kf2) kf3) kf4) kf5) kf6) kf7) kf8) kf9) kf10) kf11) kf12) kf13) kf14) kf15) kf16) kf17) kf18) kf19) kf20) kf21) kf22) kf23) kf24) kf25) kf26) kf27) kf28) kf29) kf30) kf31)

theorem over : Rows.budgetModulesRow.holds Tryz.pinned (OpenSpec.ofChange Rows.budgetModulesSpec) :=
  OpenClaim.holds_of_wide 4 Tryz.f4 rfl rfl rfl rfl rfl rfl rfl ⟨rfl, rfl, rfl, rfl, rfl⟩ rfl rfl rfl rfl rfl (by kernel_rfl) Tryz.func4 closed
    (of_decide_eq_true (by kernel_rfl)) (by unfold Func.isWrapper; first | (rw [if_pos (by decide +kernel)]; kernel_rfl) | (rw [if_neg (by decide +kernel)]; exact ⟨rfl, rfl⟩))
    (fun os started H enc _ => lifted os started H enc)

end Go.Proofs.YtpahnbgfmhcndaaGreatDoor.budgetModulesLaw
namespace Go.Proofs.YtpahnbgfmhcndaaGreatDoor
/-- The statement: the card. -/
theorem budgetModules_holds : Rows.BudgetModulesCardSaid :=
  Claim7.holds_tied_plain_at .later [] [.data, .data, .data, .data, .sentinel, .sentinel, .pinned] true (true, "c83b75dd236441772812fdda1b127fd763253e9d3ac742947f8c686ecd51050f") true budgetModulesLaw.over (fun _ h => by cases h) (by kernel_rfl) (fun _ h => by cases h) budgetModules_row_tie rfl ⟨rfl, rfl⟩ (by kernel_rfl) rfl
    (fun f fn hf hfn => by
      obtain rfl : f = 4 := Option.some.inj ((show Tryz.prog.funcNamed "grommet/grommetlaw26.BudgetModules" = some 4 by kernel_rfl).symm.trans hf) |>.symm
      obtain rfl : fn = Tryz.f4 := (Option.some.inj (Tryz.func4.symm.trans hfn)).symm
      exact ⟨by kernel_rfl, fun j t ht => by
        rw [Tryz.params4] at ht
        have hm : t ∈ [31, 3, 3, 3, 3] := by simpa using Array.mem_of_getElem? ht
        have hall : ([31, 3, 3, 3, 3].all fun u => !Tryz.prog.wantsStandIn u) = true := by kernel_rfl
        exact (show Tryz.prog.wantsStandIn t = false by simpa using List.all_eq_true.1 hall t hm)⟩)
    (by kernel_rfl)
#print axioms budgetModules_holds
end Go.Proofs.YtpahnbgfmhcndaaGreatDoor
