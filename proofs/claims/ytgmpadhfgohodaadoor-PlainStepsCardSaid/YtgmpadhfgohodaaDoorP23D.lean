/-
  The six steps' functions as values.
-/
import Derived.Test.YtgmpadhfgohodaaDoorP23V
import Derived.Test.YtgmpadhfgohodaaDoorHlY
namespace Go.Hl
open Go.RowKit
set_option linter.unusedVariables false
noncomputable def stepFV (P : Program) (k : Nat) : VP := funV P (A := List InstrD × Nat) (fun a => SmL a.1 60000 ∧ a.2 < a.1.length) (fun a => [sliceV 5 encInstr a.1, iV (a.2 : Int)]) (fun a => stV a.1 a.2 k)
instance (P : Program) (k : Nat) : Flat (stepFV P k) := by unfold stepFV; infer_instance
noncomputable def stepsV (P : Program) : List VP := [stepFV P 0, stepFV P 1, stepFV P 2, stepFV P 3, stepFV P 4, stepFV P 5]
instance (P : Program) : FlatL (stepsV P) := by unfold stepsV; infer_instance
theorem steps_at {P : Program} {k : Nat} (h : k < 6) : (stepsV P)[k]? = some (stepFV P k) := by
  match k, h with
  | 0, _ => rfl
  | 1, _ => rfl
  | 2, _ => rfl
  | 3, _ => rfl
  | 4, _ => rfl
  | 5, _ => rfl
end Go.Hl
namespace Go.Proofs.YtgmpadhfgohodaaDoor
open Go.Hl Go.RowKit
set_option linter.unusedVariables false
theorem stepsV_of {F S : BS} {w : World} {v : Value} (ho : Own [tabH 0 .u8 Lib.deBruijn64tab] F S w)
    (hv : (aggV [exactV (.func (.func 12) #[] #[]), exactV (.func (.func 13) #[] #[]), exactV (.func (.func 14) #[] #[]), exactV (.func (.func 15) #[] #[]), exactV (.func (.func 16) #[] #[]), exactV (.func (.func 17) #[] #[])]).p S w v) : (aggV (stepsV Tryd.prog)).p S w v := by
  obtain ⟨arr, h1, h2, h3⟩ := hv
  obtain ⟨F', hvh⟩ := ho.at (i := 0) rfl
  refine ⟨arr, h1, h2, fun j q hj => ?_⟩
  match j, hj with
  | 0, hj => obtain ⟨u, hu, e⟩ := h3 0 _ rfl; cases hj; exact ⟨u, hu, e ▸ funV_pure Tryd.cb12 (fun a h => pnops_spec h.1 h.2) S w⟩
  | 1, hj => obtain ⟨u, hu, e⟩ := h3 1 _ rfl; cases hj; exact ⟨u, hu, e ▸ funV_dup (vh := tabH 0 .u8 Lib.deBruijn64tab) Tryd.cb13 (fun a h => pfolds_spec h.1 h.2) hvh⟩
  | 2, hj => obtain ⟨u, hu, e⟩ := h3 2 _ rfl; cases hj; exact ⟨u, hu, e ▸ funV_pure Tryd.cb14 (fun a h => ppairs_spec h.1 h.2) S w⟩
  | 3, hj => obtain ⟨u, hu, e⟩ := h3 3 _ rfl; cases hj; exact ⟨u, hu, e ▸ funV_pure Tryd.cb15 (fun a h => pdrops_spec h.1 h.2) S w⟩
  | 4, hj => obtain ⟨u, hu, e⟩ := h3 4 _ rfl; cases hj; exact ⟨u, hu, e ▸ funV_pure Tryd.cb16 (fun a h => ptees_spec h.1 h.2) S w⟩
  | 5, hj => obtain ⟨u, hu, e⟩ := h3 5 _ rfl; cases hj; exact ⟨u, hu, e ▸ funV_pure Tryd.cb17 (fun a h => pdead_spec h.1 h.2) S w⟩
  | j + 6, hj => cases hj
end Go.Proofs.YtgmpadhfgohodaaDoor
