/-
  The law PlainSteps holds: at every input the call returns true, and what was there stays as it was.
  No condition but the form's own (the reach).
-/
import Derived.Test.YtgmpadhfgohodaaDoorRows
import Derived.WalkKit
import Derived.ProofKit
import Derived.OpenShut
import Derived.ShutString
import Derived.ChangeOld
import Derived.Below
import Derived.SizedLaws
import Derived.LaidMore
import Derived.Lay
import Derived.SevenTiedAt
import Derived.Stop.Joined
import Derived.Test.YtgmpadhfgohodaaDoorTie
import Derived.Test.YtgmpadhfgohodaaDoorCards
import Derived.Test.YtgmpadhfgohodaaDoorHlR
import Derived.Test.YtgmpadhfgohodaaDoorP23R
namespace Go.Proofs.YtgmpadhfgohodaaDoor.plainStepsLaw
open Go.ChangeShapes Go.WideShapes Go.ChangeAt Go.RowKit Go.Hl
open Go.ChangeMaps (open_string shut_string)
set_option linter.unusedVariables false
set_option maxRecDepth 100000

theorem own : ownKnob Tryd.prog.godebug = none := by kernel_rfl
theorem laidOut : laidOutB Tryd.prog = true := by kernel_rfl

def laid : List (String × DataW Unit) := [("math/bits.deBruijn64tab", Rows.laid_math_bits_deBruijn64tab)]

theorem opn40 : Opn Tryd.prog 40 encIW :=
  Opn.via (Opn.struct Tryd.underlying40 Tryd.cz40 (.cons (by kernel_rfl) Tryd.cz3 (Opn.int (k := .i64) Tryd.underlying3) (.cons (by kernel_rfl) Tryd.cz37 (Opn.intW (k := .u64) Tryd.underlying37) (.cons (by kernel_rfl) Tryd.cz37 (Opn.int (k := .u64) Tryd.underlying37) (.cons (by kernel_rfl) Tryd.cz3 (Opn.int (k := .i64) Tryd.underlying3) (.cons (by kernel_rfl) Tryd.cz38 (Opn.slice (enc := encU64) Tryd.underlying38 Tryd.cz37 (by kernel_rfl) (by kernel_rfl) (show Opn Tryd.prog 37 encU64 from (Opn.int (k := .u64) Tryd.underlying37))) .nil)))))) (fun p => mkIW p.1 p.2.1 p.2.2.1 p.2.2.2.1 p.2.2.2.2.1) (fun _ => rfl)

set_option maxRecDepth 100000 in
theorem lifted (os : Os) (started : os.Started) (H : Type) (enc : TypeId × Value → H) :
    ReturnsInHanded {} Tryd.checked os 3 .any (fun w args => (Rows.plainStepsSpec.pre enc Tryd.prog Tryd.f3 Rows.plainStepsRow.domain false w args ∧ laidMetH Tryd.prog laid w) ∧ sizedMet enc Tryd.prog Tryd.f3 (OpenSpec.ofChange Rows.plainStepsSpec) false w args) (Rows.plainStepsSpec.post enc Tryd.prog Tryd.f3 false true false false) := by
  refine returnsInHanded_of_change_and (C := Tryd.checked) (X := fun w _ => laidMetH Tryd.prog laid w) (fun _ _ _ hh h => h.of_heap hh) own started (by kernel_rfl) Tryd.func3
    (ChangeSpec.witness_shaped (enc := enc) (C := Tryd.checked) (os := os) (X := fun w _ => laidMetH Tryd.prog laid w) false (World.laidAll Tryd.prog os laid) #[.slice none 0 0] 8 (World.laidAll_os _ _ _)
      (World.shaped_of_ZipB (by kernel_rfl) (by kernel_rfl)) (by kernel_rfl) (by kernel_rfl) (by kernel_rfl)
      (by rw [MakeChecks.laidMetH_plain _ _ _ (by kernel_rfl)]; exact laidMet_laidAll _ (by kernel_rfl) (by kernel_rfl))) ?_
  intro W base args ds gs before hval0 hW hcnd hsz0 hX _
  have hval : ∀ (j : Nat) t v, Tryd.f3.params[j]? = some t → args[j]? = some v → Value.okWide Tryd.prog W .any base t v := hval0
  have hsz : (DataW.weightsEach Tryd.prog (Tryd.f3.params.toList ++ Rows.plainStepsSpec.plain.varTypes Tryd.prog) (ds ++ gs)).all (· ≤ reachBytes) = true := hsz0
  have hW' := hW
  obtain ⟨p, q, hA0, hV, rfl, hfz, hnd⟩ := hW
  have hA : DataW.TrodAll enc Tryd.prog W 0 (fun _ => true) true Tryd.f3.params.toList args.toList ds p := hA0
  rw [Tryd.params3] at hA hval hsz
  obtain ⟨v0, vs0, d0, ds0, p0, q0, hargs, rfl, rfl, h0, r0⟩ := trodAll_cons hA
  obtain ⟨rfl, rfl, rfl⟩ := trodAll_nil r0
  obtain rfl : args = #[v0] := by cases args; simp_all
  obtain ⟨rfl, rfl⟩ := trodVars_none hV
  have lt0 : ∀ x ∈ p0, x.block < W.heap.size := by obtain ⟨m, hm⟩ := h0; exact DataW.trod_lt m _ _ _ hm
  obtain ⟨a0, w0⟩ := arg_one (q := fun a0 : _ => sliceV 5 encIW a0) (Opn.slice (enc := encIW) Tryd.underlying22 Tryd.cz40 (by kernel_rfl) (by kernel_rfl) opn40) Tryd.ag22 (fun _ => rfl) (hval 0 22 v0 rfl rfl) h0 (reach_at hsz (j := 0) rfl rfl)
  clear hA0 hval0
  have hm0 : laidMet Tryd.prog [("math/bits.deBruijn64tab", Lib.tabData .u8 (Lib.deBruijn64tab.map Int.ofNat))] W := by
    have h := hX.filter (fun x => x.1 == "math/bits.deBruijn64tab")
    rw [show laid.filter (fun x => x.1 == "math/bits.deBruijn64tab") = [("math/bits.deBruijn64tab", Lib.tabData .u8 (Lib.deBruijn64tab.map Int.ofNat))] by kernel_rfl, MakeChecks.laidMetH_plain _ _ _ (by kernel_rfl)] at h
    exact h
  have htab : Lib.TabIs Tryd.prog W "math/bits.deBruijn64tab" .u8 (Lib.deBruijn64tab.map Int.ofNat) := Lib.tabIs_of_head (g := 0) (n := 64) (by kernel_rfl) (by kernel_rfl) Tryd.underlying120 Tryd.underlying5 (by kernel_rfl) (by kernel_rfl) hm0
  have hvars : (tabH 0 .u8 Lib.deBruijn64tab).p (fun _ => False) (fun k => k < W.heap.size) W := ⟨World.block_lt_of_cell? _ _ (htab.cell (by kernel_rfl) 0 (by decide)), fun j hj => by rw [← map_getD]; exact htab.cell (by kernel_rfl) j (by simpa using hj)⟩
  have hall : All2 [sliceV 5 encIW a0] (fun k => k < W.heap.size) W [v0] := (.cat (.one w0) All2.nil)
  refine (law_callsD ((PlainSteps0_spec (l := a0.map (·.1)) (okI_map a0)).argLe (.cons sliceIW .nil)) hvars hall).mono fun e W' ⟨he, bel⟩ => ?_
  subst he
  exact ⟨_, rfl, _, _, _, [], _, [], hW', trodAll_mk1 (shut_bool Tryd.underlying4 _), (trodAll_cons_mk (Below.trod laidOut (by kernel_rfl) (of_decide_eq_true (by kernel_rfl)) h0 bel lt0) trodAll_mk0), rfl, bel.frame _, fun h => by cases h⟩

theorem over : Rows.plainStepsRow.holds Tryd.pinned (OpenSpec.ofChange Rows.plainStepsSpec) :=
  OpenClaim.holds_of_wide 3 Tryd.f3 rfl rfl rfl rfl rfl rfl rfl ⟨rfl, rfl, rfl, rfl, rfl⟩ rfl rfl rfl rfl rfl (by kernel_rfl) Tryd.func3 (by kernel_rfl)
    (of_decide_eq_true (by kernel_rfl)) (by unfold Func.isWrapper; first | (rw [if_pos (by decide +kernel)]; kernel_rfl) | (rw [if_neg (by decide +kernel)]; exact ⟨rfl, rfl⟩))
    (fun os started H enc _ => lifted os started H enc)

end Go.Proofs.YtgmpadhfgohodaaDoor.plainStepsLaw
namespace Go.Proofs.YtgmpadhfgohodaaDoor
/-- The statement: the card. -/
theorem plainSteps_holds : Rows.PlainStepsCardSaid :=
  Claim7.holds_tied_plain_at .later [] [.data] true (true, "a93f3e103b09345abeef32a3aefe6678ae3c14cea1a933463b300ca7e7a2a154") false plainStepsLaw.over (fun _ h => by cases h) (by kernel_rfl) (fun _ h => by cases h) plainSteps_row_tie rfl ⟨rfl, rfl⟩ (by kernel_rfl) rfl
    (fun f fn hf hfn => by
      obtain rfl : f = 3 := Option.some.inj ((show Tryd.prog.funcNamed "grommet/grommetlaw23.PlainSteps" = some 3 by kernel_rfl).symm.trans hf) |>.symm
      obtain rfl : fn = Tryd.f3 := (Option.some.inj (Tryd.func3.symm.trans hfn)).symm
      exact ⟨by kernel_rfl, fun j t ht => by
        rw [Tryd.params3] at ht
        have hm : t ∈ [22] := by simpa using Array.mem_of_getElem? ht
        have hall : ([22].all fun u => !Tryd.prog.wantsStandIn u) = true := by kernel_rfl
        exact (show Tryd.prog.wantsStandIn t = false by simpa using List.all_eq_true.1 hall t hm)⟩)
    (by kernel_rfl)
#print axioms plainSteps_holds
end Go.Proofs.YtgmpadhfgohodaaDoor
