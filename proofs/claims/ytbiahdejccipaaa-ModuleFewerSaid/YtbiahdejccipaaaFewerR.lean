/-
  The law ModuleFewer holds: at every input the call returns true, and what was there stays as it was.
  No condition but the form's own (the reach).
-/
import Derived.Test.YtbiahdejccipaaaRows
import Derived.WalkKit
import Derived.ProofKit
import Derived.OpenShut
import Derived.ShutString
import Derived.ChangeOld
import Derived.Below
import Derived.SizedLaws
import Derived.Test.YtbiahdejccipaaaHlR
import Derived.Test.YtbiahdejccipaaaM13T
namespace Go.Proofs.Ytbiahdejccipaaa.moduleFewerLaw
open Go.ChangeShapes Go.WideShapes Go.ChangeAt Go.RowKit Go.Hl
open Go.ChangeMaps (open_string shut_string)
set_option linter.unusedVariables false
set_option maxRecDepth 100000

theorem own : ownKnob Try.prog.godebug = none := by kernel_rfl
theorem laidOut : laidOutB Try.prog = true := by kernel_rfl

theorem opn52 : Opn Try.prog 52 encSig :=
  Opn.via (Opn.struct Try.underlying52 Try.cz52 (.cons (by kernel_rfl) Try.cz50 (Opn.slice (enc := encU8) Try.underlying50 Try.cz5 (by kernel_rfl) (by kernel_rfl) (show Opn Try.prog 5 encU8 from (Opn.u8 Try.underlying5))) (.cons (by kernel_rfl) Try.cz50 (Opn.slice (enc := encU8) Try.underlying50 Try.cz5 (by kernel_rfl) (by kernel_rfl) (show Opn Try.prog 5 encU8 from (Opn.u8 Try.underlying5))) .nil))) (fun p => ⟨p.1, p.2.1⟩) (fun _ => rfl)
theorem opn62 : Opn Try.prog 62 encImport :=
  Opn.via (Opn.struct Try.underlying62 Try.cz62 (.cons (by kernel_rfl) Try.cz9 (Opn.str Try.underlying9) (.cons (by kernel_rfl) Try.cz9 (Opn.str Try.underlying9) (.cons (by kernel_rfl) Try.cz3 (Opn.int (k := .i64) Try.underlying3) .nil)))) (fun p => ⟨p.1, p.2.1, p.2.2.1⟩) (fun _ => rfl)
theorem opn121 : Opn Try.prog 121 encInstr :=
  Opn.via (Opn.struct Try.underlying121 Try.cz121 (.cons (by kernel_rfl) Try.cz3 (Opn.int (k := .i64) Try.underlying3) (.cons (by kernel_rfl) Try.cz81 (Opn.int (k := .u64) Try.underlying81) (.cons (by kernel_rfl) Try.cz81 (Opn.int (k := .u64) Try.underlying81) (.cons (by kernel_rfl) Try.cz3 (Opn.int (k := .i64) Try.underlying3) (.cons (by kernel_rfl) Try.cz104 (Opn.slice (enc := encU64) Try.underlying104 Try.cz81 (by kernel_rfl) (by kernel_rfl) (show Opn Try.prog 81 encU64 from (Opn.int (k := .u64) Try.underlying81))) .nil)))))) (fun p => ⟨p.1, p.2.1, p.2.2.1, p.2.2.2.1, p.2.2.2.2.1⟩) (fun _ => rfl)
theorem opn65 : Opn Try.prog 65 encBody :=
  Opn.via (Opn.struct Try.underlying65 Try.cz65 (.cons (by kernel_rfl) Try.cz50 (Opn.slice (enc := encU8) Try.underlying50 Try.cz5 (by kernel_rfl) (by kernel_rfl) (show Opn Try.prog 5 encU8 from (Opn.u8 Try.underlying5))) (.cons (by kernel_rfl) Try.cz63 (Opn.slice (enc := encInstr) Try.underlying63 Try.cz121 (by kernel_rfl) (by kernel_rfl) opn121) .nil))) (fun p => ⟨p.1, p.2.1⟩) (fun _ => rfl)
theorem opn67 : Opn Try.prog 67 encFunc :=
  Opn.via (Opn.struct Try.underlying67 Try.cz67 (.cons (by kernel_rfl) Try.cz3 (Opn.int (k := .i64) Try.underlying3) (.cons (by kernel_rfl) Try.cz65 opn65 .nil))) (fun p => ⟨p.1, p.2.1⟩) (fun _ => rfl)
theorem opn79 : Opn Try.prog 79 encLimits :=
  Opn.via (Opn.struct Try.underlying79 Try.cz79 (.cons (by kernel_rfl) Try.cz3 (Opn.int (k := .i64) Try.underlying3) (.cons (by kernel_rfl) Try.cz3 (Opn.int (k := .i64) Try.underlying3) (.cons (by kernel_rfl) Try.cz4 (Opn.bool Try.underlying4) .nil)))) (fun p => ⟨p.1, p.2.1, p.2.2.1⟩) (fun _ => rfl)
theorem opn83 : Opn Try.prog 83 encGlobal :=
  Opn.via (Opn.struct Try.underlying83 Try.cz83 (.cons (by kernel_rfl) Try.cz80 (Opn.u8 Try.underlying80) (.cons (by kernel_rfl) Try.cz4 (Opn.bool Try.underlying4) (.cons (by kernel_rfl) Try.cz81 (Opn.int (k := .u64) Try.underlying81) .nil)))) (fun p => ⟨p.1, p.2.1, p.2.2.1⟩) (fun _ => rfl)
theorem opn57 : Opn Try.prog 57 encExport :=
  Opn.via (Opn.struct Try.underlying57 Try.cz57 (.cons (by kernel_rfl) Try.cz9 (Opn.str Try.underlying9) (.cons (by kernel_rfl) Try.cz3 (Opn.int (k := .i64) Try.underlying3) (.cons (by kernel_rfl) Try.cz3 (Opn.int (k := .i64) Try.underlying3) .nil)))) (fun p => ⟨p.1, p.2.1, p.2.2.1⟩) (fun _ => rfl)
theorem opn86 : Opn Try.prog 86 encElem :=
  Opn.via (Opn.struct Try.underlying86 Try.cz86 (.cons (by kernel_rfl) Try.cz81 (Opn.int (k := .u64) Try.underlying81) (.cons (by kernel_rfl) Try.cz84 (Opn.slice (enc := encInt) Try.underlying84 Try.cz3 (by kernel_rfl) (by kernel_rfl) (show Opn Try.prog 3 encInt from (Opn.int (k := .i64) Try.underlying3))) .nil))) (fun p => ⟨p.1, p.2.1⟩) (fun _ => rfl)
theorem opn88 : Opn Try.prog 88 encData :=
  Opn.via (Opn.struct Try.underlying88 Try.cz88 (.cons (by kernel_rfl) Try.cz3 (Opn.int (k := .i64) Try.underlying3) (.cons (by kernel_rfl) Try.cz81 (Opn.int (k := .u64) Try.underlying81) (.cons (by kernel_rfl) Try.cz50 (Opn.slice (enc := encU8) Try.underlying50 Try.cz5 (by kernel_rfl) (by kernel_rfl) (show Opn Try.prog 5 encU8 from (Opn.u8 Try.underlying5))) .nil)))) (fun p => ⟨p.1, p.2.1, p.2.2.1⟩) (fun _ => rfl)
theorem opn31 : Opn Try.prog 31 encMod :=
  Opn.via (Opn.struct Try.underlying31 Try.cz31 (.cons (by kernel_rfl) Try.cz22 (Opn.slice (enc := encSig) Try.underlying22 Try.cz52 (by kernel_rfl) (by kernel_rfl) opn52) (.cons (by kernel_rfl) Try.cz23 (Opn.slice (enc := encImport) Try.underlying23 Try.cz62 (by kernel_rfl) (by kernel_rfl) opn62) (.cons (by kernel_rfl) Try.cz24 (Opn.slice (enc := encFunc) Try.underlying24 Try.cz67 (by kernel_rfl) (by kernel_rfl) opn67) (.cons (by kernel_rfl) Try.cz3 (Opn.int (k := .i64) Try.underlying3) (.cons (by kernel_rfl) Try.cz25 (Opn.slice (enc := encLimits) Try.underlying25 Try.cz79 (by kernel_rfl) (by kernel_rfl) opn79) (.cons (by kernel_rfl) Try.cz26 (Opn.slice (enc := encGlobal) Try.underlying26 Try.cz83 (by kernel_rfl) (by kernel_rfl) opn83) (.cons (by kernel_rfl) Try.cz27 (Opn.slice (enc := encExport) Try.underlying27 Try.cz57 (by kernel_rfl) (by kernel_rfl) opn57) (.cons (by kernel_rfl) Try.cz3 (Opn.int (k := .i64) Try.underlying3) (.cons (by kernel_rfl) Try.cz28 (Opn.slice (enc := encElem) Try.underlying28 Try.cz86 (by kernel_rfl) (by kernel_rfl) opn86) (.cons (by kernel_rfl) Try.cz29 (Opn.slice (enc := encData) Try.underlying29 Try.cz88 (by kernel_rfl) (by kernel_rfl) opn88) .nil))))))))))) (fun p => ⟨p.1, p.2.1, p.2.2.1, p.2.2.2.1, p.2.2.2.2.1, p.2.2.2.2.2.1, p.2.2.2.2.2.2.1, p.2.2.2.2.2.2.2.1, p.2.2.2.2.2.2.2.2.1, p.2.2.2.2.2.2.2.2.2.1⟩) (fun _ => rfl)

set_option maxRecDepth 100000 in
theorem lifted (os : Os) (started : os.Started) (H : Type) (enc : TypeId × Value → H) :
    ReturnsInHanded {} Try.checked os 3 .any (Rows.moduleFewerSpec.pre6 enc Try.prog Try.f3 Rows.moduleFewerRow.domain false) (Rows.moduleFewerSpec.post enc Try.prog Try.f3 false true false false) := by
  refine returnsInHanded_of_change_sized (C := Try.checked) own started (by kernel_rfl) Try.func3
    (ChangeSpec.witness6 (enc := enc) (C := Try.checked) false ⟨#[], #[.agg #[.slice none 0 0, .slice none 0 0, .slice none 0 0, .int .i64 0, .slice none 0 0, .slice none 0 0, .slice none 0 0, .int .i64 0, .slice none 0 0, .slice none 0 0]], []⟩ 8 (by kernel_rfl) (by kernel_rfl) (by kernel_rfl) (by kernel_rfl)) ?_
  intro W base args ds gs before hval0 hW hcnd hsz0 _
  have hval : ∀ (j : Nat) t v, Try.f3.params[j]? = some t → args[j]? = some v → Value.okWide Try.prog W .any base t v := hval0
  have hsz : (DataW.weightsEach Try.prog (Try.f3.params.toList ++ Rows.moduleFewerSpec.plain.varTypes Try.prog) (ds ++ gs)).all (· ≤ reachBytes) = true := hsz0
  have hW' := hW
  obtain ⟨p, q, hA0, hV, rfl, hfz, hnd⟩ := hW
  have hA : DataW.TrodAll enc Try.prog W 0 (fun _ => true) true Try.f3.params.toList args.toList ds p := hA0
  rw [Try.params3] at hA hval hsz
  obtain ⟨v0, vs0, d0, ds0, p0, q0, hargs, rfl, rfl, h0, r0⟩ := trodAll_cons hA
  obtain ⟨rfl, rfl, rfl⟩ := trodAll_nil r0
  obtain rfl : args = #[v0] := by cases args; simp_all
  obtain ⟨rfl, rfl⟩ := trodVars_none hV
  have lt0 : ∀ x ∈ p0, x.block < W.heap.size := by obtain ⟨m, hm⟩ := h0; exact DataW.trod_lt m _ _ _ hm
  obtain ⟨a0, w0⟩ := arg_agg opn31 Try.underlying31 (hval 0 31 v0 rfl rfl) h0 (reach_at hsz (j := 0) rfl rfl)
  clear hA0 hval0
  have hall : All2 [aggV (encMod a0)] (fun k => k < W.heap.size) W [v0] := (.cat (.one w0) All2.nil)
  refine (law_calls (ModuleFewer_spec) hall).mono fun e W' ⟨he, bel⟩ => ?_
  subst he
  exact ⟨_, rfl, _, _, _, [], _, [], hW', trodAll_mk1 (shut_bool Try.underlying4 _), (trodAll_cons_mk (Below.trod laidOut (by kernel_rfl) (of_decide_eq_true (by kernel_rfl)) h0 bel lt0) trodAll_mk0), rfl, bel.frame _, fun h => by cases h⟩

theorem over : Rows.moduleFewerRow.holds Try.pinned (OpenSpec.ofChange Rows.moduleFewerSpec) :=
  OpenClaim.holds_of_wide 3 Try.f3 rfl rfl rfl rfl rfl rfl rfl ⟨rfl, rfl, rfl, rfl, rfl⟩ rfl rfl rfl rfl rfl (by kernel_rfl) Try.func3 (by kernel_rfl)
    (of_decide_eq_true (by kernel_rfl)) (by unfold Func.isWrapper; first | (rw [if_pos (by decide +kernel)]; kernel_rfl) | (rw [if_neg (by decide +kernel)]; exact ⟨rfl, rfl⟩))
    (fun os started H enc _ => lifted os started H enc)

end Go.Proofs.Ytbiahdejccipaaa.moduleFewerLaw
namespace Go.Proofs.Ytbiahdejccipaaa
/-- The statement. -/
theorem moduleFewer_holds : Rows.ModuleFewerSaid := moduleFewerLaw.over
#print axioms moduleFewer_holds
end Go.Proofs.Ytbiahdejccipaaa
